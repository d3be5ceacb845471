/-
  FnWalksCardSaid: for every input the law FnWalks returns true, and its arguments read afterwards as before. Condition: the package variables that the row lists hold what their initialisers lay; the card ties that to the text.
-/
import Derived.Test.YtomkgnamjfiocaaGreatDoorArgB
import Derived.Test.YtomkgnamjfiocaaGreatDoorWkG
import Derived.Test.YtomkgnamjfiocaaGreatDoorWlP
import Derived.Test.YtomkgnamjfiocaaGreatDoorRevW2
import Derived.Test.YtomkgnamjfiocaaGreatDoorTrail2
import Derived.Test.YtomkgnamjfiocaaGreatDoorSimp
import Derived.Test.YtomkgnamjfiocaaGreatDoorFmtWk
import Derived.Test.YtomkgnamjfiocaaGreatDoorPrsWk
import Derived.Test.YtomkgnamjfiocaaGreatDoorCmpW
import Derived.Test.YtomkgnamjfiocaaGreatDoorSameI
import Derived.Test.YtomkgnamjfiocaaGreatDoorRev
import Derived.Test.YtomkgnamjfiocaaGreatDoorBaseF
import Derived.Test.YtomkgnamjfiocaaGreatDoorBaseA
import Derived.Test.YtomkgnamjfiocaaGreatDoorFr
import Derived.Test.YtomkgnamjfiocaaGreatDoorCards
import Derived.Test.YtomkgnamjfiocaaGreatDoorTie
import Derived.Deep.DeepHandedRow
import Derived.Lay
import Derived.SevenTiedAt
import Derived.LaidMore
import Derived.Stop.Joined
namespace Go.Proofs.YtomkgnamjfiocaaGreatDoor.fnWalks
open Go.ChangeShapes Go.WideShapes Go.ChangeAt Go.RowKit Go.Deep
open Go.ChangeMaps (open_string shut_string)
set_option linter.unusedVariables false

theorem bt {w w' : World} (h : Tch 0 0 w w') : Below w.heap.size w w' := ⟨h.os, h.tape, h.output, h.size, fun k hk => h.block k hk (by omega)⟩

theorem own : ownKnob Tryz.prog.godebug = none := by kernel_rfl
theorem laidOut : laidOutB Tryz.prog = true := by kernel_rfl

set_option maxRecDepth 4000 in
set_option maxHeartbeats 64000000 in
theorem walk (W : World) (hS : W.ShapedOpen Tryz.prog) (hL : laidMet Tryz.prog Rows.fnWalksRow.laid W) (v0 : Value) (g0 : ArgBytes W v0) :
    Calls Tryz.prog 3 #[v0] W fun e w' => e = .returned (.bool true) ∧ Below W.heap.size W w' := by
  have TP : TabP W := tabP_of hL.tail.tail
  have TE : TabE W := tabE_of hL.tail.tail.tail.tail.tail
  have TM : TabM W := tabM_of hS
  clear hL hS
  obtain ⟨A0, n0, cp0, bs, rfl, hl, hnc, hcm, hr⟩ := g0
  by_cases hbig : (1048576 : Int) < n0
  · have hd : decide ((1048576 : Int) < n0) = true := by simpa using hbig
    go_enter Tryz.func3, Tryz.ntmps3
    go_wp2_with fail
    refine (big_is _ _ _ _).mono ?_
    rintro e w1 ⟨rfl, rfl⟩
    go_wp2
    go_ret
    exact ⟨rfl, Below.refl _ _⟩
  · have hd : decide ((1048576 : Int) < n0) = false := by simpa using hbig
    have R0 : CRaw W A0 n0 := ⟨⟨bs, hl, hr⟩, by omega⟩
    clear hl hnc hcm hr
    go_enter Tryz.func3, Tryz.ntmps3
    go_wp2_with fail
    refine (big_is _ _ _ _).mono ?_
    rintro e w0 ⟨rfl, rfl⟩
    go_wp2_with fail
    refine (drawReverse_any w0 R0).mono ?_
    rintro e w1 ⟨A, n, c, B, m, d, st, C, k, cf, rfl, hkf, ⟨g, G3⟩, ⟨wl, S4⟩, hb⟩
    have Bw1 := hb
    clear hb
    have bA : Below w1.heap.size w1 (w1.alloc (.cells #[.slice A n c, .slice B m d] 27)) := (Below.refl _ _).alloc (Nat.le_refl _) _
    have Xg3 := Blk.new w1 27 #[.slice A n c, .slice B m d]
    have BN := below_then Bw1 bA
    replace G3 := G3.up bA
    replace S4 := S4.up bA
    clear bA Bw1
    generalize hwg3 : w1.alloc (.cells #[.slice A n c, .slice B m d] 27) = w2 at *
    generalize hhg3 : w1.heap.size = bg3 at *
    have HWg3 := Lib.hid hwg3
    have HHg3 := Lib.hid hhg3
    clear hwg3 hhg3
    have Bw2 := BN
    clear BN
    have bA : Below w2.heap.size w2 (w2.alloc (.cells #[.int .i64 st, .slice C k cf] 30)) := (Below.refl _ _).alloc (Nat.le_refl _) _
    have Xw4 := Blk.new w2 30 #[.int .i64 st, .slice C k cf]
    have BN := below_then Bw2 bA
    replace Xg3 := Xg3.below bA Xg3.lt
    replace G3 := G3.up bA
    replace S4 := S4.up bA
    clear bA Bw2
    generalize hww4 : w2.alloc (.cells #[.int .i64 st, .slice C k cf] 30) = w3 at *
    have hsz : w2.heap.size = bg3 + 1 := by rw [← HWg3.out, World.size_alloc, HHg3.out]
    rw [hsz] at Xw4
    clear hsz
    generalize hhw4 : bg3 + 1 = bw4 at *
    have HWw4 := Lib.hid hww4
    have HHw4 := Lib.hid hhw4
    clear hww4 hhw4
    have Bw3 := BN
    clear BN
    obtain ⟨ok, hok⟩ : ∃ ok, walkOk g st wl = ok := ⟨_, rfl⟩
    obtain ⟨rx, hrx⟩ : ∃ rx, revWk g st wl = rx := ⟨_, rfl⟩
    obtain ⟨nz, hnz⟩ : ∃ nz, nodesZ g st wl = nz := ⟨_, rfl⟩
    obtain ⟨tr, htr⟩ : ∃ tr, trailZ g st wl = tr := ⟨_, rfl⟩
    obtain ⟨sp, hsp⟩ : ∃ sp, simpleZ g st wl = sp := ⟨_, rfl⟩
    obtain ⟨wz, hwz⟩ : ∃ wz, wordZ g st wl = wz := ⟨_, rfl⟩
    obtain ⟨en, hen⟩ : ∃ en, endZ g st wl = en := ⟨_, rfl⟩
    have hlaw : ok = true → rx.st = en ∧ endZ g rx.st rx.steps = st ∧ wordZ g rx.st rx.steps = revW wz ∧ walkOk g rx.st rx.steps = true ∧ revWk g rx.st rx.steps = ⟨st, wl⟩ ∧ nz.length = wl.length + 1 := by
      intro h
      have h1 := hok.trans h
      have h2 := revWk_yes h1
      rw [hrx] at h2
      obtain ⟨r1, r2⟩ := rev_walk h1
      have h3 := rev_word h1
      have h4 := revWk_yes r1
      rw [r2, revSt_two] at h4
      subst h2
      refine ⟨hen, r2, ?_, r1, h4, ?_⟩
      · rw [← hwz]
        exact h3
      · rw [← hnz]
        exact nodesZ_len h1
    have HLAW := Lib.hid hlaw
    have hst : sp = true → tr = true := fun h => by
      rw [← htr]
      exact simple_trail (hsp.trans h)
    have HST := Lib.hid hst
    clear hlaw hst
    have i1 := fun w (h : GRd w A n B m g) (h2 : SRd w C k wl) => implReverseWalk_is w (c := c) (d := d) (e := cf) h st h2
    have i2 := fun w (h : GRd w A n B m g) (h2 : SRd w C k wl) => specReverseWalk_is w (c := c) (d := d) (e := cf) h st h2
    have i3 := fun w (h : GRd w A n B m g) (h2 : SRd w C k wl) => implIsValidWalk_is w (c := c) (d := d) (e := cf) h st h2
    have i4 := fun w (h : GRd w A n B m g) (h2 : SRd w C k wl) => implWalkNodes_is w (c := c) (d := d) (e := cf) h st h2
    have i5 := fun w (h : GRd w A n B m g) (h2 : SRd w C k wl) => specWalkNodes_is w (c := c) (d := d) (e := cf) h st h2
    have i6 := fun w (h : GRd w A n B m g) (h2 : SRd w C k wl) => implIsTrail_is w (c := c) (d := d) (e := cf) h st h2 hkf
    have i7 := fun w (h : GRd w A n B m g) (h2 : SRd w C k wl) => specIsTrail_is w (c := c) (d := d) (e := cf) h st h2
    have i8 := fun w (h : GRd w A n B m g) (h2 : SRd w C k wl) => implIsSimplePath_is w (c := c) (d := d) (e := cf) h st h2
    have i9 := fun w (h : GRd w A n B m g) (h2 : SRd w C k wl) => implWalkEnd_is w (c := c) (d := d) (e := cf) h st h2
    have i10 := fun w (h : GRd w A n B m g) (h2 : SRd w C k wl) => implWalkWord_is w (c := c) (d := d) (e := cf) h st h2
    simp only [hok, hrx] at i1 i2 i3
    simp only [hnz] at i4 i5
    simp only [htr] at i6 i7
    simp only [hsp] at i8
    simp only [hen] at i9
    simp only [hwz] at i10
    have I1 := Lib.hid i1
    have I2 := Lib.hid i2
    have I3 := Lib.hid i3
    have I4 := Lib.hid i4
    have I5 := Lib.hid i5
    have I6 := Lib.hid i6
    have I7 := Lib.hid i7
    have I8 := Lib.hid i8
    have I9 := Lib.hid i9
    have I10 := Lib.hid i10
    clear i1 i2 i3 i4 i5 i6 i7 i8 i9 i10
    clear hok hrx hnz htr hsp hwz hen
    have lg30 := Xg3.cell 0
    have lg31 := Xg3.cell 1
    have lw40 := Xw4.cell 0
    have lw41 := Xw4.cell 1
    go_wp2_with fail
    rw [HWg3.out, HHg3.out, HWw4.out, HHw4.out]
    refine (I1.out _ G3 S4).mono ?_
    rintro e w4 ⟨C5, k5, f5, rfl, J5, hb⟩
    clear lg30 lg31 lw40 lw41
    have Bw4 := below_then Bw3 hb
    replace Xg3 := Xg3.below hb Xg3.lt
    replace Xw4 := Xw4.below hb Xw4.lt
    replace G3 := G3.up hb
    replace S4 := S4.up hb
    clear hb
    clear Bw3
    have S5 := RIs.srd J5
    clear J5
    have bA : Below w4.heap.size w4 (w4.alloc (.cells #[.int .i64 rx.st, .slice C5 k5 f5] 30)) := (Below.refl _ _).alloc (Nat.le_refl _) _
    have Xw5 := Blk.new w4 30 #[.int .i64 rx.st, .slice C5 k5 f5]
    have BN := below_then Bw4 bA
    replace Xg3 := Xg3.below bA Xg3.lt
    replace Xw4 := Xw4.below bA Xw4.lt
    replace G3 := G3.up bA
    replace S4 := S4.up bA
    replace S5 := S5.up bA
    clear bA Bw4
    generalize hww5 : w4.alloc (.cells #[.int .i64 rx.st, .slice C5 k5 f5] 30) = w5 at *
    generalize hhw5 : w4.heap.size = bw5 at *
    have HWw5 := Lib.hid hww5
    have HHw5 := Lib.hid hhw5
    clear hww5 hhw5
    have Bw5 := BN
    clear BN
    have lg30 := Xg3.cell 0
    rw [← HWw5.out] at lg30
    have lg31 := Xg3.cell 1
    rw [← HWw5.out] at lg31
    have lw40 := Xw4.cell 0
    rw [← HWw5.out] at lw40
    have lw41 := Xw4.cell 1
    rw [← HWw5.out] at lw41
    go_wp2_with fail
    rw [HWw5.out, HHw5.out]
    refine (I2.out _ G3 S4).mono ?_
    rintro e w6 ⟨C7, k7, f7, rfl, J7, hb⟩
    clear lg30 lg31 lw40 lw41
    have Bw6 := below_then Bw5 hb
    replace Xg3 := Xg3.below hb Xg3.lt
    replace Xw4 := Xw4.below hb Xw4.lt
    replace Xw5 := Xw5.below hb Xw5.lt
    replace G3 := G3.up hb
    replace S4 := S4.up hb
    replace S5 := S5.up hb
    clear hb
    clear Bw5
    have S7 := RIs.srd J7
    clear J7
    have bA : Below w6.heap.size w6 (w6.alloc (.cells #[.int .i64 rx.st, .slice C7 k7 f7] 30)) := (Below.refl _ _).alloc (Nat.le_refl _) _
    have Xw7 := Blk.new w6 30 #[.int .i64 rx.st, .slice C7 k7 f7]
    have BN := below_then Bw6 bA
    replace Xg3 := Xg3.below bA Xg3.lt
    replace Xw4 := Xw4.below bA Xw4.lt
    replace Xw5 := Xw5.below bA Xw5.lt
    replace G3 := G3.up bA
    replace S4 := S4.up bA
    replace S5 := S5.up bA
    replace S7 := S7.up bA
    clear bA Bw6
    generalize hww7 : w6.alloc (.cells #[.int .i64 rx.st, .slice C7 k7 f7] 30) = w7 at *
    generalize hhw7 : w6.heap.size = bw7 at *
    have HWw7 := Lib.hid hww7
    have HHw7 := Lib.hid hhw7
    clear hww7 hhw7
    have Bw7 := BN
    clear BN
    have lw50 := Xw5.cell 0
    rw [← HWw7.out] at lw50
    have lw51 := Xw5.cell 1
    rw [← HWw7.out] at lw51
    have lw70 := Xw7.cell 0
    have lw71 := Xw7.cell 1
    go_wp2_with fail
    rw [HWw7.out, HHw7.out]
    refine (specCompareWalks_is _ (c := f5) (d := f7) rx.st S5 rx.st S7).mono ?_
    rintro e w8 ⟨rfl, hb⟩
    clear lw50 lw51 lw70 lw71
    rw [cmpWk_same]
    have Bw8 := below_then Bw7 hb
    replace Xg3 := Xg3.below hb Xg3.lt
    replace Xw4 := Xw4.below hb Xw4.lt
    replace Xw5 := Xw5.below hb Xw5.lt
    replace Xw7 := Xw7.below hb Xw7.lt
    replace G3 := G3.up hb
    replace S4 := S4.up hb
    replace S5 := S5.up hb
    replace S7 := S7.up hb
    clear hb
    clear Bw7
    clear Xw7
    clear S7
    have lg30 := Xg3.cell 0
    have lg31 := Xg3.cell 1
    have lw40 := Xw4.cell 0
    have lw41 := Xw4.cell 1
    go_wp2_with fail
    refine (I3.out _ G3 S4).mono ?_
    rintro e w9 ⟨rfl, hb⟩
    clear lg30 lg31 lw40 lw41
    have Bw9 := below_then Bw8 hb
    replace Xg3 := Xg3.below hb Xg3.lt
    replace Xw4 := Xw4.below hb Xw4.lt
    replace Xw5 := Xw5.below hb Xw5.lt
    replace G3 := G3.up hb
    replace S4 := S4.up hb
    replace S5 := S5.up hb
    clear hb
    clear Bw8
    clear I2 I3
    have lg30 := Xg3.cell 0
    have lg31 := Xg3.cell 1
    have lw40 := Xw4.cell 0
    have lw41 := Xw4.cell 1
    go_wp2_with fail
    refine (I4.out _ G3 S4).mono ?_
    rintro e w10 ⟨A9, n9, c9, rfl, J9, hb⟩
    clear lg30 lg31 lw40 lw41
    have Bw10 := below_then Bw9 hb
    replace Xg3 := Xg3.below hb Xg3.lt
    replace Xw4 := Xw4.below hb Xw4.lt
    replace Xw5 := Xw5.below hb Xw5.lt
    replace G3 := G3.up hb
    replace S4 := S4.up hb
    replace S5 := S5.up hb
    clear hb
    clear Bw9
    have N9 := RIs.ird J9
    clear J9 I4
    go_wp2_with fail
    have bD : Below w10.heap.size w10 w10.drew := (Below.refl _ _).drew
    obtain ⟨wd, hwd⟩ : ∃ wd, wd = w10.drew := ⟨_, rfl⟩
    rw [← hwd] at bD
    have Bwd := below_then Bw10 bD
    replace Xg3 := Xg3.below bD Xg3.lt
    replace Xw4 := Xw4.below bD Xw4.lt
    replace Xw5 := Xw5.below bD Xw5.lt
    replace G3 := G3.up bD
    replace S4 := S4.up bD
    replace S5 := S5.up bD
    replace N9 := N9.up bD
    clear bD
    clear Bw10
    refine wp_region_sl [56, 57, 58, 59, 60, 61, 62, 63, 64, 65, 66, 67, 68, 69, 70, 71, 72, 73, 74, 75, 76, 77, 78, 79, 80, 81] (JB w10.drew 0 0 (fun _ => True) 99 [(.val (.slice A9 n9 c9)), (.val (.agg #[.slice A n c, .slice B m d])), (.val (.agg #[.int .i64 st, .slice C k cf])), (.ints (fun xs => xs = nz)), (.val (.bool true)), (.val (.bool false)), (.val (.bool false)), (.val (.agg #[.slice A n c, .slice B m d])), (.val (.agg #[.int .i64 st, .slice C k cf])), (.val (.bool tr)), (.val (.agg #[.slice A n c, .slice B m d])), (.val (.agg #[.int .i64 st, .slice C k cf])), (.val (.bool tr)), (.val (.bool false)), (.val (.bool false)), (.val (.bool false)), (.val (.agg #[.slice A n c, .slice B m d])), (.val (.agg #[.int .i64 st, .slice C k cf])), (.val (.bool sp)), (.val (.bool sp)), (.val (cond sp (.agg #[.slice A n c, .slice B m d]) undef)), (.val (cond sp (.agg #[.int .i64 st, .slice C k cf]) undef)), (.val (cond sp (.bool true) undef)), (.val (cond sp (.bool false) undef)), (.val (.bool false)), (.val (.bool false))] [56, 57, 58, 59, 60, 61, 62, 63, 64, 65, 66, 67, 68, 69, 70, 71, 72, 73, 74, 75, 76, 77, 78, 79, 80, 81]) (by kernel_rfl) (by kernel_rfl) (by decide) (by intro d hd; simp at hd; simp; omega) (by kernel_rfl) ?h0 ?hstep ?hend
    case h0 => exact ⟨Tch.refl _ _ _, trivial, (fun k _ _ hk => absurd hk Bool.false_ne_true)⟩
    case hstep =>
      rw [← hwd]
      intro i L f w' o b K ho hLi hwt hcl hJ hS HK HN
      have hin : RowKit.Hid (Inj [56, 57, 58, 59, 60, 61, 62, 63, 64, 65, 66, 67, 68, 69, 70, 71, 72, 73, 74, 75, 76, 77, 78, 79, 80, 81]) := Lib.hid (by decide)
      have hi : i < 26 := by simpa using (Array.getElem?_eq_some_iff.1 ho).1
      rcases (show i = 0 ∨ i = 1 ∨ i = 2 ∨ i = 3 ∨ i = 4 ∨ i = 5 ∨ i = 6 ∨ i = 7 ∨ i = 8 ∨ i = 9 ∨ i = 10 ∨ i = 11 ∨ i = 12 ∨ i = 13 ∨ i = 14 ∨ i = 15 ∨ i = 16 ∨ i = 17 ∨ i = 18 ∨ i = 19 ∨ i = 20 ∨ i = 21 ∨ i = 22 ∨ i = 23 ∨ i = 24 ∨ i = 25 by omega) with rfl | rfl | rfl | rfl | rfl | rfl | rfl | rfl | rfl | rfl | rfl | rfl | rfl | rfl | rfl | rfl | rfl | rfl | rfl | rfl | rfl | rfl | rfl | rfl | rfl | rfl
      all_goals
        simp only [List.getElem?_toArray, List.getElem?_cons_zero, List.getElem?_cons_succ, Option.some.injEq] at ho
        subst ho
        clear hi
      · clear hcl
        have s9 : b.tmps.getD 9 undef = .slice A9 n9 c9 := hS.o 9 (by decide)
        go_simp
        exact HK.out 56 _ _ rfl (hJ.same (Nat.zero_le _) (by decide) hin.out rfl (by decide) rfl rfl)
      · clear hcl
        have s3 : b.tmps.getD 3 undef = .pointer (some ⟨bg3, 0, none⟩) := hS.o 3 (by decide)
        have u0 := (Xg3.below (bt hJ.t) Xg3.lt).cell 0
        have u1 := (Xg3.below (bt hJ.t) Xg3.lt).cell 1
        go_simp
        exact HK.out 57 _ _ rfl (hJ.same (Nat.zero_le _) (by decide) hin.out rfl (by decide) rfl rfl)
      · clear hcl
        have s4 : b.tmps.getD 4 undef = .pointer (some ⟨bw4, 0, none⟩) := hS.o 4 (by decide)
        have u0 := (Xw4.below (bt hJ.t) Xw4.lt).cell 0
        have u1 := (Xw4.below (bt hJ.t) Xw4.lt).cell 1
        go_simp
        exact HK.out 58 _ _ rfl (hJ.same (Nat.zero_le _) (by decide) hin.out rfl (by decide) rfl rfl)
      · clear hcl
        have s57 : b.tmps.getD 57 undef = (.agg #[.slice A n c, .slice B m d]) := (hS.i 57 (by decide)).trans (hJ.v 1 _ rfl (hwt ⟨1, .data⟩ (by simp) rfl))
        have s58 : b.tmps.getD 58 undef = (.agg #[.int .i64 st, .slice C k cf]) := (hS.i 58 (by decide)).trans (hJ.v 2 _ rfl (hwt ⟨2, .data⟩ (by simp) rfl))
        go_simp
        refine (I5.out _ (G3.up (bt hJ.t)) (S4.up (bt hJ.t))).mono ?_
        rintro e w6 ⟨C6, k6, f6, rfl, J6, hb⟩
        have hzz := hJ.t.size
        go_simp
        exact HK.out 59 _ _ rfl (hJ.put (Nat.zero_le _) (by decide) hin.out rfl (by decide) rfl (Tch.of_below hb) trivial ⟨C6, k6, f6, _, rfl, rfl, J6.bd, own_rebase J6.own.row hzz⟩)
      · clear hcl
        have s56 : b.tmps.getD 56 undef = (.slice A9 n9 c9) := (hS.i 56 (by decide)).trans (hJ.v 0 _ rfl (hwt ⟨0, .data⟩ (by simp) rfl))
        obtain ⟨C3, k3, f3, l3, hs3, hp3, hk3, o3⟩ := hJ.v 3 _ rfl (hwt ⟨3, .data⟩ (by simp) rfl)
        have s59 : b.tmps.getD 59 undef = .slice C3 k3 f3 := (hS.i 59 (by decide)).trans hs3
        have hp3 : l3 = nz := hp3
        have HPB := Lib.hid hp3
        clear hp3
        go_simp
        refine (sameInts_any A9 C3 n9 c9 k3 f3 nz l3 _ (N9.up (bt hJ.t)).ln (ird_of o3 hk3).ln N9.bd hk3 (N9.up (bt hJ.t)).rd (ird_of o3 hk3).rd).mono ?_
        rintro e w6 ⟨rfl, hb⟩
        rw [show eqB nz l3 = true from by rw [HPB.out]; exact eqB_refl _]
        go_simp
        exact HK.out 60 _ _ rfl (hJ.put (Nat.zero_le _) (by decide) hin.out rfl (by decide) rfl (Tch.of_below hb) trivial rfl)
      · clear hcl
        have s60 : b.tmps.getD 60 undef = (.bool true) := (hS.i 60 (by decide)).trans (hJ.v 4 _ rfl (hwt ⟨4, .data⟩ (by simp) rfl))
        go_simp
        exact HK.out 61 _ _ rfl (hJ.same (Nat.zero_le _) (by decide) hin.out rfl (by decide) rfl rfl)
      · clear hcl
        have s61 : b.tmps.getD 61 undef = (.bool false) := (hS.i 61 (by decide)).trans (hJ.v 5 _ rfl (hwt ⟨5, .data⟩ (by simp) rfl))
        go_simp
        exact HK.out 62 _ _ rfl (hJ.same (Nat.zero_le _) (by decide) hin.out rfl (by decide) rfl rfl)
      · clear hcl
        have s62 : b.tmps.getD 62 undef = .bool false := (hS.i 62 (by decide)).trans (hJ.v 6 _ rfl (hwt ⟨6, .guard⟩ (by simp) rfl))
        have s3 : b.tmps.getD 3 undef = .pointer (some ⟨bg3, 0, none⟩) := hS.o 3 (by decide)
        have u0 := (Xg3.below (bt hJ.t) Xg3.lt).cell 0
        have u1 := (Xg3.below (bt hJ.t) Xg3.lt).cell 1
        rw [if_pos (wanted_on rfl rfl s62)]
        go_simp
        exact HK.out 63 _ _ rfl (hJ.same (Nat.zero_le _) (by decide) hin.out rfl (by decide) rfl rfl)
      · clear hcl
        have s62 : b.tmps.getD 62 undef = .bool false := (hS.i 62 (by decide)).trans (hJ.v 6 _ rfl (hwt ⟨6, .guard⟩ (by simp) rfl))
        have s4 : b.tmps.getD 4 undef = .pointer (some ⟨bw4, 0, none⟩) := hS.o 4 (by decide)
        have u0 := (Xw4.below (bt hJ.t) Xw4.lt).cell 0
        have u1 := (Xw4.below (bt hJ.t) Xw4.lt).cell 1
        rw [if_pos (wanted_on rfl rfl s62)]
        go_simp
        exact HK.out 64 _ _ rfl (hJ.same (Nat.zero_le _) (by decide) hin.out rfl (by decide) rfl rfl)
      · clear hcl
        have s62 : b.tmps.getD 62 undef = .bool false := (hS.i 62 (by decide)).trans (hJ.v 6 _ rfl (hwt ⟨6, .guard⟩ (by simp) rfl))
        have s63 : b.tmps.getD 63 undef = (.agg #[.slice A n c, .slice B m d]) := (hS.i 63 (by decide)).trans (hJ.v 7 _ rfl (hwt ⟨7, .data⟩ (by simp) rfl))
        have s64 : b.tmps.getD 64 undef = (.agg #[.int .i64 st, .slice C k cf]) := (hS.i 64 (by decide)).trans (hJ.v 8 _ rfl (hwt ⟨8, .data⟩ (by simp) rfl))
        rw [if_pos (wanted_on rfl rfl s62)]
        go_simp
        refine (I6.out _ (G3.up (bt hJ.t)) (S4.up (bt hJ.t))).mono ?_
        rintro e w6 ⟨rfl, hb⟩
        go_simp
        exact HK.out 65 _ _ rfl (hJ.put (Nat.zero_le _) (by decide) hin.out rfl (by decide) rfl (Tch.of_below hb) trivial rfl)
      · clear hcl
        have s62 : b.tmps.getD 62 undef = .bool false := (hS.i 62 (by decide)).trans (hJ.v 6 _ rfl (hwt ⟨6, .guard⟩ (by simp) rfl))
        have s3 : b.tmps.getD 3 undef = .pointer (some ⟨bg3, 0, none⟩) := hS.o 3 (by decide)
        have u0 := (Xg3.below (bt hJ.t) Xg3.lt).cell 0
        have u1 := (Xg3.below (bt hJ.t) Xg3.lt).cell 1
        rw [if_pos (wanted_on rfl rfl s62)]
        go_simp
        exact HK.out 66 _ _ rfl (hJ.same (Nat.zero_le _) (by decide) hin.out rfl (by decide) rfl rfl)
      · clear hcl
        have s62 : b.tmps.getD 62 undef = .bool false := (hS.i 62 (by decide)).trans (hJ.v 6 _ rfl (hwt ⟨6, .guard⟩ (by simp) rfl))
        have s4 : b.tmps.getD 4 undef = .pointer (some ⟨bw4, 0, none⟩) := hS.o 4 (by decide)
        have u0 := (Xw4.below (bt hJ.t) Xw4.lt).cell 0
        have u1 := (Xw4.below (bt hJ.t) Xw4.lt).cell 1
        rw [if_pos (wanted_on rfl rfl s62)]
        go_simp
        exact HK.out 67 _ _ rfl (hJ.same (Nat.zero_le _) (by decide) hin.out rfl (by decide) rfl rfl)
      · clear hcl
        have s62 : b.tmps.getD 62 undef = .bool false := (hS.i 62 (by decide)).trans (hJ.v 6 _ rfl (hwt ⟨6, .guard⟩ (by simp) rfl))
        have s66 : b.tmps.getD 66 undef = (.agg #[.slice A n c, .slice B m d]) := (hS.i 66 (by decide)).trans (hJ.v 10 _ rfl (hwt ⟨10, .data⟩ (by simp) rfl))
        have s67 : b.tmps.getD 67 undef = (.agg #[.int .i64 st, .slice C k cf]) := (hS.i 67 (by decide)).trans (hJ.v 11 _ rfl (hwt ⟨11, .data⟩ (by simp) rfl))
        rw [if_pos (wanted_on rfl rfl s62)]
        go_simp
        refine (I7.out _ (G3.up (bt hJ.t)) (S4.up (bt hJ.t))).mono ?_
        rintro e w6 ⟨rfl, hb⟩
        go_simp
        exact HK.out 68 _ _ rfl (hJ.put (Nat.zero_le _) (by decide) hin.out rfl (by decide) rfl (Tch.of_below hb) trivial rfl)
      · clear hcl
        have s62 : b.tmps.getD 62 undef = .bool false := (hS.i 62 (by decide)).trans (hJ.v 6 _ rfl (hwt ⟨6, .guard⟩ (by simp) rfl))
        have s65 : b.tmps.getD 65 undef = (.bool tr) := (hS.i 65 (by decide)).trans (hJ.v 9 _ rfl (hwt ⟨9, .data⟩ (by simp) rfl))
        have s68 : b.tmps.getD 68 undef = (.bool tr) := (hS.i 68 (by decide)).trans (hJ.v 12 _ rfl (hwt ⟨12, .data⟩ (by simp) rfl))
        rw [if_pos (wanted_on rfl rfl s62)]
        go_simp
        exact HK.out 69 _ _ rfl (hJ.same (Nat.zero_le _) (by decide) hin.out rfl (by decide) rfl (by simp [Rb.ok]))
      · clear hcl
        have s62 : b.tmps.getD 62 undef = (.bool false) := (hS.i 62 (by decide)).trans (hJ.v 6 _ rfl (hwt ⟨6, .data⟩ (by simp) rfl))
        have s69 : b.tmps.getD 69 undef = (.bool false) := (hS.i 69 (by decide)).trans (hJ.v 13 _ rfl (hwt ⟨13, .data⟩ (by simp) rfl))
        go_simp
        exact HK.out 70 _ _ rfl (hJ.same (Nat.zero_le _) (by decide) hin.out rfl (by decide) rfl rfl)
      · clear hcl
        have s70 : b.tmps.getD 70 undef = (.bool false) := (hS.i 70 (by decide)).trans (hJ.v 14 _ rfl (hwt ⟨14, .data⟩ (by simp) rfl))
        go_simp
        exact HK.out 71 _ _ rfl (hJ.same (Nat.zero_le _) (by decide) hin.out rfl (by decide) rfl rfl)
      · clear hcl
        have s71 : b.tmps.getD 71 undef = .bool false := (hS.i 71 (by decide)).trans (hJ.v 15 _ rfl (hwt ⟨15, .guard⟩ (by simp) rfl))
        have s3 : b.tmps.getD 3 undef = .pointer (some ⟨bg3, 0, none⟩) := hS.o 3 (by decide)
        have u0 := (Xg3.below (bt hJ.t) Xg3.lt).cell 0
        have u1 := (Xg3.below (bt hJ.t) Xg3.lt).cell 1
        rw [if_pos (wanted_on rfl rfl s71)]
        go_simp
        exact HK.out 72 _ _ rfl (hJ.same (Nat.zero_le _) (by decide) hin.out rfl (by decide) rfl rfl)
      · clear hcl
        have s71 : b.tmps.getD 71 undef = .bool false := (hS.i 71 (by decide)).trans (hJ.v 15 _ rfl (hwt ⟨15, .guard⟩ (by simp) rfl))
        have s4 : b.tmps.getD 4 undef = .pointer (some ⟨bw4, 0, none⟩) := hS.o 4 (by decide)
        have u0 := (Xw4.below (bt hJ.t) Xw4.lt).cell 0
        have u1 := (Xw4.below (bt hJ.t) Xw4.lt).cell 1
        rw [if_pos (wanted_on rfl rfl s71)]
        go_simp
        exact HK.out 73 _ _ rfl (hJ.same (Nat.zero_le _) (by decide) hin.out rfl (by decide) rfl rfl)
      · clear hcl
        have s71 : b.tmps.getD 71 undef = .bool false := (hS.i 71 (by decide)).trans (hJ.v 15 _ rfl (hwt ⟨15, .guard⟩ (by simp) rfl))
        have s72 : b.tmps.getD 72 undef = (.agg #[.slice A n c, .slice B m d]) := (hS.i 72 (by decide)).trans (hJ.v 16 _ rfl (hwt ⟨16, .data⟩ (by simp) rfl))
        have s73 : b.tmps.getD 73 undef = (.agg #[.int .i64 st, .slice C k cf]) := (hS.i 73 (by decide)).trans (hJ.v 17 _ rfl (hwt ⟨17, .data⟩ (by simp) rfl))
        rw [if_pos (wanted_on rfl rfl s71)]
        go_simp
        refine (I8.out _ (G3.up (bt hJ.t)) (S4.up (bt hJ.t))).mono ?_
        rintro e w6 ⟨rfl, hb⟩
        go_simp
        exact HK.out 74 _ _ rfl (hJ.put (Nat.zero_le _) (by decide) hin.out rfl (by decide) rfl (Tch.of_below hb) trivial rfl)
      · clear hcl
        have s71 : b.tmps.getD 71 undef = .bool false := (hS.i 71 (by decide)).trans (hJ.v 15 _ rfl (hwt ⟨15, .guard⟩ (by simp) rfl))
        have s74 : b.tmps.getD 74 undef = (.bool sp) := (hS.i 74 (by decide)).trans (hJ.v 18 _ rfl (hwt ⟨18, .data⟩ (by simp) rfl))
        rw [if_pos (wanted_on rfl rfl s71)]
        go_simp
        exact HK.out 75 _ _ rfl (hJ.same (Nat.zero_le _) (by decide) hin.out rfl (by decide) rfl rfl)
      · cases sp
        · clear hcl
          have s75 : b.tmps.getD 75 undef = .bool false := (hS.i 75 (by decide)).trans (hJ.v 19 _ rfl (hwt ⟨19, .guard⟩ (by simp) rfl))
          rw [if_neg (unwanted_of rfl rfl s75)]
          exact HK.out 76 _ _ rfl (hJ.same (Nat.zero_le _) (by decide) hin.out rfl (by decide) rfl rfl)
        · clear hcl
          have s75 : b.tmps.getD 75 undef = .bool true := (hS.i 75 (by decide)).trans (hJ.v 19 _ rfl (hwt ⟨19, .guard⟩ (by simp) rfl))
          have s3 : b.tmps.getD 3 undef = .pointer (some ⟨bg3, 0, none⟩) := hS.o 3 (by decide)
          have u0 := (Xg3.below (bt hJ.t) Xg3.lt).cell 0
          have u1 := (Xg3.below (bt hJ.t) Xg3.lt).cell 1
          rw [if_pos (wanted_on rfl rfl s75)]
          go_simp
          exact HK.out 76 _ _ rfl (hJ.same (Nat.zero_le _) (by decide) hin.out rfl (by decide) rfl rfl)
      · cases sp
        · clear hcl
          have s75 : b.tmps.getD 75 undef = .bool false := (hS.i 75 (by decide)).trans (hJ.v 19 _ rfl (hwt ⟨19, .guard⟩ (by simp) rfl))
          rw [if_neg (unwanted_of rfl rfl s75)]
          exact HK.out 77 _ _ rfl (hJ.same (Nat.zero_le _) (by decide) hin.out rfl (by decide) rfl rfl)
        · clear hcl
          have s75 : b.tmps.getD 75 undef = .bool true := (hS.i 75 (by decide)).trans (hJ.v 19 _ rfl (hwt ⟨19, .guard⟩ (by simp) rfl))
          have s4 : b.tmps.getD 4 undef = .pointer (some ⟨bw4, 0, none⟩) := hS.o 4 (by decide)
          have u0 := (Xw4.below (bt hJ.t) Xw4.lt).cell 0
          have u1 := (Xw4.below (bt hJ.t) Xw4.lt).cell 1
          rw [if_pos (wanted_on rfl rfl s75)]
          go_simp
          exact HK.out 77 _ _ rfl (hJ.same (Nat.zero_le _) (by decide) hin.out rfl (by decide) rfl rfl)
      · cases sp
        · clear hcl
          have s75 : b.tmps.getD 75 undef = .bool false := (hS.i 75 (by decide)).trans (hJ.v 19 _ rfl (hwt ⟨19, .guard⟩ (by simp) rfl))
          rw [if_neg (unwanted_of rfl rfl s75)]
          exact HK.out 78 _ _ rfl (hJ.same (Nat.zero_le _) (by decide) hin.out rfl (by decide) rfl rfl)
        · clear hcl
          have s75 : b.tmps.getD 75 undef = .bool true := (hS.i 75 (by decide)).trans (hJ.v 19 _ rfl (hwt ⟨19, .guard⟩ (by simp) rfl))
          have s76 : b.tmps.getD 76 undef = .agg #[.slice A n c, .slice B m d] := (hS.i 76 (by decide)).trans (hJ.v 20 _ rfl (hwt ⟨20, .data⟩ (by simp) rfl))
          have s77 : b.tmps.getD 77 undef = .agg #[.int .i64 st, .slice C k cf] := (hS.i 77 (by decide)).trans (hJ.v 21 _ rfl (hwt ⟨21, .data⟩ (by simp) rfl))
          have htr : tr = true := HST.out rfl
          rw [if_pos (wanted_on rfl rfl s75)]
          go_simp
          refine (I6.out _ (G3.up (bt hJ.t)) (S4.up (bt hJ.t))).mono ?_
          rintro e w6 ⟨rfl, hb⟩
          go_simp
          exact HK.out 78 _ _ rfl (hJ.put (Nat.zero_le _) (by decide) hin.out rfl (by decide) rfl (Tch.of_below hb) trivial rfl)
      · cases sp
        · clear hcl
          have s75 : b.tmps.getD 75 undef = .bool false := (hS.i 75 (by decide)).trans (hJ.v 19 _ rfl (hwt ⟨19, .guard⟩ (by simp) rfl))
          rw [if_neg (unwanted_of rfl rfl s75)]
          exact HK.out 79 _ _ rfl (hJ.same (Nat.zero_le _) (by decide) hin.out rfl (by decide) rfl rfl)
        · clear hcl
          have s75 : b.tmps.getD 75 undef = .bool true := (hS.i 75 (by decide)).trans (hJ.v 19 _ rfl (hwt ⟨19, .guard⟩ (by simp) rfl))
          have s78 : b.tmps.getD 78 undef = .bool true := (hS.i 78 (by decide)).trans (hJ.v 22 _ rfl (hwt ⟨22, .data⟩ (by simp) rfl))
          rw [if_pos (wanted_on rfl rfl s75)]
          go_simp
          exact HK.out 79 _ _ rfl (hJ.same (Nat.zero_le _) (by decide) hin.out rfl (by decide) rfl rfl)
      · cases sp
        · clear hcl
          have s71 : b.tmps.getD 71 undef = .bool false := (hS.i 71 (by decide)).trans (hJ.v 15 _ rfl (hwt ⟨15, .guard⟩ (by simp) rfl))
          have s75 : b.tmps.getD 75 undef = .bool false := (hS.i 75 (by decide)).trans (hJ.v 19 _ rfl (hwt ⟨19, .data⟩ (by simp) rfl))
          rw [if_pos (wanted_on rfl rfl s71)]
          go_simp
          exact HK.out 80 _ _ rfl (hJ.same (Nat.zero_le _) (by decide) hin.out rfl (by decide) rfl rfl)
        · clear hcl
          have s71 : b.tmps.getD 71 undef = .bool false := (hS.i 71 (by decide)).trans (hJ.v 15 _ rfl (hwt ⟨15, .guard⟩ (by simp) rfl))
          have s75 : b.tmps.getD 75 undef = .bool true := (hS.i 75 (by decide)).trans (hJ.v 19 _ rfl (hwt ⟨19, .data⟩ (by simp) rfl))
          have s79 : b.tmps.getD 79 undef = .bool false := (hS.i 79 (by decide)).trans (hJ.v 23 _ rfl (hwt ⟨23, .data⟩ (by simp) rfl))
          rw [if_pos (wanted_on rfl rfl s71)]
          go_simp
          exact HK.out 80 _ _ rfl (hJ.same (Nat.zero_le _) (by decide) hin.out rfl (by decide) rfl rfl)
      · clear hcl
        have s71 : b.tmps.getD 71 undef = (.bool false) := (hS.i 71 (by decide)).trans (hJ.v 15 _ rfl (hwt ⟨15, .data⟩ (by simp) rfl))
        have s80 : b.tmps.getD 80 undef = (.bool false) := (hS.i 80 (by decide)).trans (hJ.v 24 _ rfl (hwt ⟨24, .data⟩ (by simp) rfl))
        go_simp
        exact HK.out 81 _ _ rfl (hJ.same (Nat.zero_le _) (by decide) hin.out rfl (by decide) rfl rfl)
    case hend =>
      rw [← hwd]
      intro L f w' hall hJ
      clear hwd
      have h_ : f 81 = .bool false := hJ.v 25 _ rfl (hall 25 (by decide))
      have hb := bt hJ.t
      clear hall hJ HST I5 I6 I7 I8
      obtain ⟨w12, rfl⟩ : ∃ z, z = w' := ⟨_, rfl⟩
      have Bw12 := below_then Bwd hb
      replace Xg3 := Xg3.below hb Xg3.lt
      replace Xw4 := Xw4.below hb Xw4.lt
      replace Xw5 := Xw5.below hb Xw5.lt
      replace G3 := G3.up hb
      replace S4 := S4.up hb
      replace S5 := S5.up hb
      replace N9 := N9.up hb
      clear hb
      clear Bwd
      simp only [chs, Act.put, List.setIfInBounds_toArray, List.set_cons_zero, List.set_cons_succ, h_]
      clear h_
      cases ok
      · clear HLAW I1 I9 I10
        clear Xg3
        clear Xw4
        clear Xw5
        clear G3
        clear S4
        clear S5
        clear N9
        go_wp2_with fail
        refine (drawCompare_any w12 (R0.up Bw12)).mono ?_
        rintro e w13 ⟨s1, C12, k12, f12, s2, C13, k13, f13, rfl, ⟨l12, S12⟩, ⟨l13, S13⟩, hb⟩
        have Bw13 := below_then Bw12 hb
        clear hb
        clear Bw12
        have bA : Below w13.heap.size w13 (w13.alloc (.cells #[.int .i64 s1, .slice C12 k12 f12] 30)) := (Below.refl _ _).alloc (Nat.le_refl _) _
        have Xw12 := Blk.new w13 30 #[.int .i64 s1, .slice C12 k12 f12]
        have BN := below_then Bw13 bA
        replace S12 := S12.up bA
        replace S13 := S13.up bA
        clear bA Bw13
        generalize hww12 : w13.alloc (.cells #[.int .i64 s1, .slice C12 k12 f12] 30) = w14 at *
        generalize hhw12 : w13.heap.size = bw12 at *
        have HWw12 := Lib.hid hww12
        have HHw12 := Lib.hid hhw12
        clear hww12 hhw12
        have Bw14 := BN
        clear BN
        have bA : Below w14.heap.size w14 (w14.alloc (.cells #[.int .i64 s2, .slice C13 k13 f13] 30)) := (Below.refl _ _).alloc (Nat.le_refl _) _
        have Xw13 := Blk.new w14 30 #[.int .i64 s2, .slice C13 k13 f13]
        have BN := below_then Bw14 bA
        replace Xw12 := Xw12.below bA Xw12.lt
        replace S12 := S12.up bA
        replace S13 := S13.up bA
        clear bA Bw14
        generalize hww13 : w14.alloc (.cells #[.int .i64 s2, .slice C13 k13 f13] 30) = w15 at *
        have hsz : w14.heap.size = bw12 + 1 := by rw [← HWw12.out, World.size_alloc, HHw12.out]
        rw [hsz] at Xw13
        clear hsz
        generalize hhw13 : bw12 + 1 = bw13 at *
        have HWw13 := Lib.hid hww13
        have HHw13 := Lib.hid hhw13
        clear hww13 hhw13
        have Bw15 := BN
        clear BN
        obtain ⟨cc, hcc⟩ : ∃ cc, cmpWk s1 l12 s2 l13 = cc := ⟨_, rfl⟩
        have hcn : cmpWk s2 l13 s1 l12 = -cc := by
          rw [← hcc]
          exact cmpWk_neg _ _ _ _
        have hcb := cmpWk_bd s1 l12 s2 l13
        rw [hcc] at hcb
        have hwn : IntKind.i64.wrap (-cc) = -cc := IntWalk.i64_in _ (by omega)
        have i1 := fun w (h : SRd w C12 k12 l12) (h2 : SRd w C13 k13 l13) => implCompareWalks_is w (c := f12) (d := f13) s1 h s2 h2
        have i2 := fun w (h : SRd w C12 k12 l12) (h2 : SRd w C13 k13 l13) => specCompareWalks_is w (c := f12) (d := f13) s1 h s2 h2
        have i3 := fun w (h : SRd w C13 k13 l13) (h2 : SRd w C12 k12 l12) => implCompareWalks_is w (c := f13) (d := f12) s2 h s1 h2
        simp only [hcc] at i1 i2
        simp only [hcn] at i3
        have I1 := Lib.hid i1
        have I2 := Lib.hid i2
        have I3 := Lib.hid i3
        have HWN := Lib.hid hwn
        clear i1 i2 i3 hcc hcn hcb hwn
        have lw120 := Xw12.cell 0
        have lw121 := Xw12.cell 1
        have lw130 := Xw13.cell 0
        have lw131 := Xw13.cell 1
        go_wp2_with fail
        rw [HWw12.out, HHw12.out, HWw13.out, HHw13.out]
        refine (I1.out _ S12 S13).mono ?_
        rintro e w16 ⟨rfl, hb⟩
        clear lw120 lw121 lw130 lw131
        have Bw16 := below_then Bw15 hb
        replace Xw12 := Xw12.below hb Xw12.lt
        replace Xw13 := Xw13.below hb Xw13.lt
        replace S12 := S12.up hb
        replace S13 := S13.up hb
        clear hb
        clear Bw15
        clear I1
        obtain ⟨F, hF⟩ : ∃ F, fmtWk s1 l12 = F := ⟨_, rfl⟩
        obtain ⟨Z, hZ⟩ : ∃ Z : ByteArray, (⟨F.toArray⟩ : ByteArray) = Z := ⟨_, rfl⟩
        have hZe : Z.data.toList = F := by subst hZ; rfl
        have hZs : Z.size ≤ 1048576 := by
          rw [Lib.size_eq, hZe, ← hF]
          exact walk_len s1 l12
        have hbk := walk_back s1 l12
        rw [hF] at hbk
        have f1 := fun w (h : SRd w C12 k12 l12) TP => implFormatWalk_is w s1 (c := f12) h TP
        simp only [hF, hZ] at f1
        have F1 := Lib.hid f1
        have p1 := fun w TP TE TM => implParseWalk_is w Z TP TE TM hZs
        simp only [hZe] at p1
        have HBK := Lib.hid hbk
        have HZ := Lib.hid hZ
        clear f1 hF hZe hZs hbk hZ
        have lw120 := Xw12.cell 0
        have lw121 := Xw12.cell 1
        go_wp2_with fail
        refine (F1.out _ S12 (TP.up Bw16)).mono ?_
        rintro e w17 ⟨rfl, hb⟩
        clear lw120 lw121
        have Bw17 := below_then Bw16 hb
        replace Xw12 := Xw12.below hb Xw12.lt
        replace Xw13 := Xw13.below hb Xw13.lt
        replace S12 := S12.up hb
        replace S13 := S13.up hb
        clear hb
        clear Bw16
        clear F1
        by_cases hF0 : F = []
        · have hrd : prsWkB F = false := by
            rw [HBK.out.1, hF0]
            rfl
          obtain ⟨v, hv⟩ : ∃ v, prsWk F = v := ⟨_, rfl⟩
          simp only [hrd, hv] at p1
          have P1 := Lib.hid p1
          clear p1 hrd hv
          obtain rfl : Z = ⟨#[]⟩ := by
            rw [← HZ.out, hF0]
          clear HZ hF0 HBK
          go_wp2_with fail
          refine (P1.out _ (TP.up Bw17) (TE.up Bw17) (TM.up Bw17)).mono ?_
          rintro e w18 ⟨C16, k16, f16, rfl, J16, hb⟩
          have Bw18 := below_then Bw17 hb
          replace Xw12 := Xw12.below hb Xw12.lt
          replace Xw13 := Xw13.below hb Xw13.lt
          replace S12 := S12.up hb
          replace S13 := S13.up hb
          clear hb
          clear Bw17
          have S16 := RIs.srd J16
          clear J16 P1
          have bA : Below w18.heap.size w18 (w18.alloc (.cells #[.int .i64 v.st, .slice C16 k16 f16] 30)) := (Below.refl _ _).alloc (Nat.le_refl _) _
          have Xw16 := Blk.new w18 30 #[.int .i64 v.st, .slice C16 k16 f16]
          have BN := below_then Bw18 bA
          replace Xw12 := Xw12.below bA Xw12.lt
          replace Xw13 := Xw13.below bA Xw13.lt
          replace S12 := S12.up bA
          replace S13 := S13.up bA
          replace S16 := S16.up bA
          clear bA Bw18
          generalize hww16 : w18.alloc (.cells #[.int .i64 v.st, .slice C16 k16 f16] 30) = w19 at *
          generalize hhw16 : w18.heap.size = bw16 at *
          have HWw16 := Lib.hid hww16
          have HHw16 := Lib.hid hhw16
          clear hww16 hhw16
          have Bw19 := BN
          clear BN
          have lw120 := Xw12.cell 0
          rw [← HWw16.out] at lw120
          have lw121 := Xw12.cell 1
          rw [← HWw16.out] at lw121
          have lw130 := Xw13.cell 0
          rw [← HWw16.out] at lw130
          have lw131 := Xw13.cell 1
          rw [← HWw16.out] at lw131
          go_wp2_with fail
          rw [HWw16.out, HHw16.out]
          refine (I2.out _ S12 S13).mono ?_
          rintro e w20 ⟨rfl, hb⟩
          clear lw120 lw121 lw130 lw131
          have Bw20 := below_then Bw19 hb
          replace Xw12 := Xw12.below hb Xw12.lt
          replace Xw13 := Xw13.below hb Xw13.lt
          replace Xw16 := Xw16.below hb Xw16.lt
          replace S12 := S12.up hb
          replace S13 := S13.up hb
          replace S16 := S16.up hb
          clear hb
          clear Bw19
          clear I2
          have lw130 := Xw13.cell 0
          have lw131 := Xw13.cell 1
          have lw120 := Xw12.cell 0
          have lw121 := Xw12.cell 1
          go_wp2_with fail
          refine (I3.out _ S13 S12).mono ?_
          rintro e w21 ⟨rfl, hb⟩
          clear lw130 lw131 lw120 lw121
          have Bw21 := below_then Bw20 hb
          replace Xw12 := Xw12.below hb Xw12.lt
          replace Xw13 := Xw13.below hb Xw13.lt
          replace Xw16 := Xw16.below hb Xw16.lt
          replace S12 := S12.up hb
          replace S13 := S13.up hb
          replace S16 := S16.up hb
          clear hb
          clear Bw20
          clear I3
          have hwn := HWN.out
          go_wp2
          go_ret
          exact ⟨by simp, Bw21⟩
        · have hrd : prsWkB F = true := by
            rw [HBK.out.1]
            exact decide_eq_true hF0
          have hv := HBK.out.2 hF0
          simp only [hrd, hv] at p1
          have P1 := Lib.hid p1
          clear p1 hrd hv
          have hZ0 : ¬ Z.toList = [] := by
            rw [ByteArray.toList_eq, ← HZ.out]
            exact hF0
          clear HZ hF0 HBK
          go_wp2_with fail
          refine (P1.out _ (TP.up Bw17) (TE.up Bw17) (TM.up Bw17)).mono ?_
          rintro e w18 ⟨C16, k16, f16, rfl, J16, hb⟩
          have Bw18 := below_then Bw17 hb
          replace Xw12 := Xw12.below hb Xw12.lt
          replace Xw13 := Xw13.below hb Xw13.lt
          replace S12 := S12.up hb
          replace S13 := S13.up hb
          clear hb
          clear Bw17
          have S16 := RIs.srd J16
          clear J16 P1
          have bA : Below w18.heap.size w18 (w18.alloc (.cells #[.int .i64 s1, .slice C16 k16 f16] 30)) := (Below.refl _ _).alloc (Nat.le_refl _) _
          have Xw16 := Blk.new w18 30 #[.int .i64 s1, .slice C16 k16 f16]
          have BN := below_then Bw18 bA
          replace Xw12 := Xw12.below bA Xw12.lt
          replace Xw13 := Xw13.below bA Xw13.lt
          replace S12 := S12.up bA
          replace S13 := S13.up bA
          replace S16 := S16.up bA
          clear bA Bw18
          generalize hww16 : w18.alloc (.cells #[.int .i64 s1, .slice C16 k16 f16] 30) = w19 at *
          generalize hhw16 : w18.heap.size = bw16 at *
          have HWw16 := Lib.hid hww16
          have HHw16 := Lib.hid hhw16
          clear hww16 hhw16
          have Bw19 := BN
          clear BN
          have lw120 := Xw12.cell 0
          rw [← HWw16.out] at lw120
          have lw121 := Xw12.cell 1
          rw [← HWw16.out] at lw121
          have lw130 := Xw13.cell 0
          rw [← HWw16.out] at lw130
          have lw131 := Xw13.cell 1
          rw [← HWw16.out] at lw131
          go_wp2_with fail
          rw [HWw16.out, HHw16.out]
          refine (I2.out _ S12 S13).mono ?_
          rintro e w20 ⟨rfl, hb⟩
          clear lw120 lw121 lw130 lw131
          have Bw20 := below_then Bw19 hb
          replace Xw12 := Xw12.below hb Xw12.lt
          replace Xw13 := Xw13.below hb Xw13.lt
          replace Xw16 := Xw16.below hb Xw16.lt
          replace S12 := S12.up hb
          replace S13 := S13.up hb
          replace S16 := S16.up hb
          clear hb
          clear Bw19
          clear I2
          have lw130 := Xw13.cell 0
          have lw131 := Xw13.cell 1
          have lw120 := Xw12.cell 0
          have lw121 := Xw12.cell 1
          go_wp2_with fail
          refine (I3.out _ S13 S12).mono ?_
          rintro e w21 ⟨rfl, hb⟩
          clear lw130 lw131 lw120 lw121
          have Bw21 := below_then Bw20 hb
          replace Xw12 := Xw12.below hb Xw12.lt
          replace Xw13 := Xw13.below hb Xw13.lt
          replace Xw16 := Xw16.below hb Xw16.lt
          replace S12 := S12.up hb
          replace S13 := S13.up hb
          replace S16 := S16.up hb
          clear hb
          clear Bw20
          clear I3
          have hwn := HWN.out
          have lw160 := Xw16.cell 0
          have lw161 := Xw16.cell 1
          have lw120 := Xw12.cell 0
          have lw121 := Xw12.cell 1
          go_wp2_with fail
          refine (implCompareWalks_is _ (c := f16) (d := f12) s1 S16 s1 S12).mono ?_
          rintro e w22 ⟨rfl, hb⟩
          clear lw160 lw161 lw120 lw121
          rw [cmpWk_same]
          have Bw22 := below_then Bw21 hb
          replace Xw12 := Xw12.below hb Xw12.lt
          replace Xw13 := Xw13.below hb Xw13.lt
          replace Xw16 := Xw16.below hb Xw16.lt
          replace S12 := S12.up hb
          replace S13 := S13.up hb
          replace S16 := S16.up hb
          clear hb
          clear Bw21
          go_wp2
          go_ret
          exact ⟨by simp [hZ0], Bw22⟩
      · obtain ⟨h1_, h2_, h3_, h4_, h5_, h6_⟩ := HLAW.out rfl
        clear HLAW
        have y1 := fun w (h : GRd w A n B m g) (h2 : SRd w C5 k5 rx.steps) => implReverseWalk_is w (c := c) (d := d) (e := f5) h rx.st h2
        have y2 := fun w (h : GRd w A n B m g) (h2 : SRd w C5 k5 rx.steps) => implWalkEnd_is w (c := c) (d := d) (e := f5) h rx.st h2
        have y3 := fun w (h : GRd w A n B m g) (h2 : SRd w C5 k5 rx.steps) => implWalkWord_is w (c := c) (d := d) (e := f5) h rx.st h2
        simp only [h5_, h4_] at y1
        simp only [h2_] at y2
        simp only [h3_] at y3
        have Y1 := Lib.hid y1
        have Y2 := Lib.hid y2
        have Y3 := Lib.hid y3
        have HEN := Lib.hid h1_
        have HNL := Lib.hid h6_
        clear y1 y2 y3 h1_ h2_ h3_ h4_ h5_ h6_ I1
        have lg30 := Xg3.cell 0
        have lg31 := Xg3.cell 1
        have lw50 := Xw5.cell 0
        have lw51 := Xw5.cell 1
        go_wp2_with fail
        refine (Y1.out _ G3 S5).mono ?_
        rintro e w13 ⟨C10, k10, f10, rfl, J10, hb⟩
        clear lg30 lg31 lw50 lw51
        have Bw13 := below_then Bw12 hb
        replace Xg3 := Xg3.below hb Xg3.lt
        replace Xw4 := Xw4.below hb Xw4.lt
        replace Xw5 := Xw5.below hb Xw5.lt
        replace G3 := G3.up hb
        replace S4 := S4.up hb
        replace S5 := S5.up hb
        replace N9 := N9.up hb
        clear hb
        clear Bw12
        have S10 := RIs.srd J10
        clear J10 Y1
        have bA : Below w13.heap.size w13 (w13.alloc (.cells #[.int .i64 st, .slice C10 k10 f10] 30)) := (Below.refl _ _).alloc (Nat.le_refl _) _
        have Xw10 := Blk.new w13 30 #[.int .i64 st, .slice C10 k10 f10]
        have BN := below_then Bw13 bA
        replace Xg3 := Xg3.below bA Xg3.lt
        replace Xw4 := Xw4.below bA Xw4.lt
        replace Xw5 := Xw5.below bA Xw5.lt
        replace G3 := G3.up bA
        replace S4 := S4.up bA
        replace S5 := S5.up bA
        replace N9 := N9.up bA
        replace S10 := S10.up bA
        clear bA Bw13
        generalize hww10 : w13.alloc (.cells #[.int .i64 st, .slice C10 k10 f10] 30) = w14 at *
        generalize hhw10 : w13.heap.size = bw10 at *
        have HWw10 := Lib.hid hww10
        have HHw10 := Lib.hid hhw10
        clear hww10 hhw10
        have Bw14 := BN
        clear BN
        have hnk : (n9 : Int) = (k : Int) + 1 := by
          have h1 := HNL.out
          have h2 := N9.ln
          have h3 := S4.ln
          omega
        have hwk : IntKind.i64.wrap ((k : Int) + 1) = (k : Int) + 1 := by
          have h3 := S4.bd
          exact IntWalk.i64_in _ (by omega)
        have HNK := Lib.hid hnk
        have HWK := Lib.hid hwk
        clear hnk hwk HNL
        go_wp2_with fail
        rw [HWw10.out, HHw10.out]
        have bD : Below w14.heap.size w14 w14.drew := (Below.refl _ _).drew
        obtain ⟨wd, hwd⟩ : ∃ wd, wd = w14.drew := ⟨_, rfl⟩
        rw [← hwd] at bD
        have Bwd := below_then Bw14 bD
        replace Xg3 := Xg3.below bD Xg3.lt
        replace Xw4 := Xw4.below bD Xw4.lt
        replace Xw5 := Xw5.below bD Xw5.lt
        replace Xw10 := Xw10.below bD Xw10.lt
        replace G3 := G3.up bD
        replace S4 := S4.up bD
        replace S5 := S5.up bD
        replace N9 := N9.up bD
        replace S10 := S10.up bD
        clear bD
        clear Bw14
        refine wp_region_sl [89, 90, 91, 92, 93, 94, 95, 96, 97, 98, 99, 100, 101, 102, 103, 104, 105, 106, 107, 108, 109, 110, 111, 112, 113, 114, 115, 116, 117, 118, 119, 120, 121, 122, 123, 124, 125, 126, 127, 128] (JB w14.drew 0 0 (fun _ => True) 99 [(.val (.agg #[.slice A n c, .slice B m d])), (.val (.agg #[.int .i64 rx.st, .slice C5 k5 f5])), (.val (.int .i64 st)), (.val (.pointer (some ⟨bw4, 0, none⟩))), (.val (.int .i64 st)), (.val (.bool false)), (.val (.bool false)), (.val (.pointer (some ⟨bw5, 0, none⟩))), (.val (.int .i64 rx.st)), (.val (.agg #[.slice A n c, .slice B m d])), (.val (.agg #[.int .i64 st, .slice C k cf])), (.val (.int .i64 rx.st)), (.val (.bool false)), (.val (.bool false)), (.val (.bool false)), (.val (.agg #[.slice A n c, .slice B m d])), (.val (.agg #[.int .i64 rx.st, .slice C5 k5 f5])), (.ints (fun xs => xs = revW wz)), (.val (.agg #[.slice A n c, .slice B m d])), (.val (.agg #[.int .i64 st, .slice C k cf])), (.ints (fun xs => xs = wz)), (.ints (fun xs => xs = revW wz)), (.val (.bool true)), (.val (.bool false)), (.val (.bool false)), (.val (.bool false)), (.val (.agg #[.int .i64 st, .slice C10 k10 f10])), (.val (.agg #[.int .i64 st, .slice C k cf])), (.val (.int .i64 0)), (.val (.bool false)), (.val (.bool false)), (.val (.bool false)), (.val (.slice A9 n9 c9)), (.val (.int .i64 n9)), (.val (.pointer (some ⟨bw4, 1, none⟩))), (.val (.slice C k cf)), (.val (.int .i64 k)), (.val (.int .i64 ((k : Int) + 1))), (.val (.bool false)), (.val (.bool false))] [89, 90, 91, 92, 93, 94, 95, 96, 97, 98, 99, 100, 101, 102, 103, 104, 105, 106, 107, 108, 109, 110, 111, 112, 113, 114, 115, 116, 117, 118, 119, 120, 121, 122, 123, 124, 125, 126, 127, 128]) (by kernel_rfl) (by kernel_rfl) (by decide) (by intro d hd; simp at hd; simp; omega) (by kernel_rfl) ?h0 ?hstep ?hend
        case h0 => exact ⟨Tch.refl _ _ _, trivial, (fun k _ _ hk => absurd hk Bool.false_ne_true)⟩
        case hstep =>
          rw [← hwd]
          intro i L f w' o b K ho hLi hwt hcl hJ hS HK HN
          have hin : RowKit.Hid (Inj [89, 90, 91, 92, 93, 94, 95, 96, 97, 98, 99, 100, 101, 102, 103, 104, 105, 106, 107, 108, 109, 110, 111, 112, 113, 114, 115, 116, 117, 118, 119, 120, 121, 122, 123, 124, 125, 126, 127, 128]) := Lib.hid (by decide)
          have hi : i < 40 := by simpa using (Array.getElem?_eq_some_iff.1 ho).1
          rcases (show i = 0 ∨ i = 1 ∨ i = 2 ∨ i = 3 ∨ i = 4 ∨ i = 5 ∨ i = 6 ∨ i = 7 ∨ i = 8 ∨ i = 9 ∨ i = 10 ∨ i = 11 ∨ i = 12 ∨ i = 13 ∨ i = 14 ∨ i = 15 ∨ i = 16 ∨ i = 17 ∨ i = 18 ∨ i = 19 ∨ i = 20 ∨ i = 21 ∨ i = 22 ∨ i = 23 ∨ i = 24 ∨ i = 25 ∨ i = 26 ∨ i = 27 ∨ i = 28 ∨ i = 29 ∨ i = 30 ∨ i = 31 ∨ i = 32 ∨ i = 33 ∨ i = 34 ∨ i = 35 ∨ i = 36 ∨ i = 37 ∨ i = 38 ∨ i = 39 by omega) with rfl | rfl | rfl | rfl | rfl | rfl | rfl | rfl | rfl | rfl | rfl | rfl | rfl | rfl | rfl | rfl | rfl | rfl | rfl | rfl | rfl | rfl | rfl | rfl | rfl | rfl | rfl | rfl | rfl | rfl | rfl | rfl | rfl | rfl | rfl | rfl | rfl | rfl | rfl | rfl
          all_goals
            simp only [List.getElem?_toArray, List.getElem?_cons_zero, List.getElem?_cons_succ, Option.some.injEq] at ho
            subst ho
            clear hi
          · clear hcl
            have s3 : b.tmps.getD 3 undef = .pointer (some ⟨bg3, 0, none⟩) := hS.o 3 (by decide)
            have u0 := (Xg3.below (bt hJ.t) Xg3.lt).cell 0
            have u1 := (Xg3.below (bt hJ.t) Xg3.lt).cell 1
            go_simp
            exact HK.out 89 _ _ rfl (hJ.same (Nat.zero_le _) (by decide) hin.out rfl (by decide) rfl rfl)
          · clear hcl
            have s5 : b.tmps.getD 5 undef = .pointer (some ⟨bw5, 0, none⟩) := hS.o 5 (by decide)
            have u0 := (Xw5.below (bt hJ.t) Xw5.lt).cell 0
            have u1 := (Xw5.below (bt hJ.t) Xw5.lt).cell 1
            go_simp
            exact HK.out 90 _ _ rfl (hJ.same (Nat.zero_le _) (by decide) hin.out rfl (by decide) rfl rfl)
          · clear hcl
            have s89 : b.tmps.getD 89 undef = (.agg #[.slice A n c, .slice B m d]) := (hS.i 89 (by decide)).trans (hJ.v 0 _ rfl (hwt ⟨0, .data⟩ (by simp) rfl))
            have s90 : b.tmps.getD 90 undef = (.agg #[.int .i64 rx.st, .slice C5 k5 f5]) := (hS.i 90 (by decide)).trans (hJ.v 1 _ rfl (hwt ⟨1, .data⟩ (by simp) rfl))
            go_simp
            refine (Y2.out _ (G3.up (bt hJ.t)) (S5.up (bt hJ.t))).mono ?_
            rintro e w6 ⟨rfl, hb⟩
            go_simp
            exact HK.out 91 _ _ rfl (hJ.put (Nat.zero_le _) (by decide) hin.out rfl (by decide) rfl (Tch.of_below hb) trivial rfl)
          · clear hcl
            have s4 : b.tmps.getD 4 undef = .pointer (some ⟨bw4, 0, none⟩) := hS.o 4 (by decide)
            go_simp
            exact HK.out 92 _ _ rfl (hJ.same (Nat.zero_le _) (by decide) hin.out rfl (by decide) rfl rfl)
          · clear hcl
            have s92 : b.tmps.getD 92 undef = (.pointer (some ⟨bw4, 0, none⟩)) := (hS.i 92 (by decide)).trans (hJ.v 3 _ rfl (hwt ⟨3, .data⟩ (by simp) rfl))
            have u0 := (Xw4.below (bt hJ.t) Xw4.lt).cell 0
            have u1 := (Xw4.below (bt hJ.t) Xw4.lt).cell 1
            go_simp
            exact HK.out 93 _ _ rfl (hJ.same (Nat.zero_le _) (by decide) hin.out rfl (by decide) rfl rfl)
          · clear hcl
            have s91 : b.tmps.getD 91 undef = (.int .i64 st) := (hS.i 91 (by decide)).trans (hJ.v 2 _ rfl (hwt ⟨2, .data⟩ (by simp) rfl))
            have s93 : b.tmps.getD 93 undef = (.int .i64 st) := (hS.i 93 (by decide)).trans (hJ.v 4 _ rfl (hwt ⟨4, .data⟩ (by simp) rfl))
            go_simp
            exact HK.out 94 _ _ rfl (hJ.same (Nat.zero_le _) (by decide) hin.out rfl (by decide) rfl rfl)
          · clear hcl
            have s94 : b.tmps.getD 94 undef = (.bool false) := (hS.i 94 (by decide)).trans (hJ.v 5 _ rfl (hwt ⟨5, .data⟩ (by simp) rfl))
            go_simp
            exact HK.out 95 _ _ rfl (hJ.same (Nat.zero_le _) (by decide) hin.out rfl (by decide) rfl rfl)
          · clear hcl
            have s95 : b.tmps.getD 95 undef = .bool false := (hS.i 95 (by decide)).trans (hJ.v 6 _ rfl (hwt ⟨6, .guard⟩ (by simp) rfl))
            have s5 : b.tmps.getD 5 undef = .pointer (some ⟨bw5, 0, none⟩) := hS.o 5 (by decide)
            rw [if_pos (wanted_on rfl rfl s95)]
            go_simp
            exact HK.out 96 _ _ rfl (hJ.same (Nat.zero_le _) (by decide) hin.out rfl (by decide) rfl rfl)
          · clear hcl
            have s95 : b.tmps.getD 95 undef = .bool false := (hS.i 95 (by decide)).trans (hJ.v 6 _ rfl (hwt ⟨6, .guard⟩ (by simp) rfl))
            have s96 : b.tmps.getD 96 undef = (.pointer (some ⟨bw5, 0, none⟩)) := (hS.i 96 (by decide)).trans (hJ.v 7 _ rfl (hwt ⟨7, .data⟩ (by simp) rfl))
            have u0 := (Xw5.below (bt hJ.t) Xw5.lt).cell 0
            have u1 := (Xw5.below (bt hJ.t) Xw5.lt).cell 1
            rw [if_pos (wanted_on rfl rfl s95)]
            go_simp
            exact HK.out 97 _ _ rfl (hJ.same (Nat.zero_le _) (by decide) hin.out rfl (by decide) rfl rfl)
          · clear hcl
            have s95 : b.tmps.getD 95 undef = .bool false := (hS.i 95 (by decide)).trans (hJ.v 6 _ rfl (hwt ⟨6, .guard⟩ (by simp) rfl))
            have s3 : b.tmps.getD 3 undef = .pointer (some ⟨bg3, 0, none⟩) := hS.o 3 (by decide)
            have u0 := (Xg3.below (bt hJ.t) Xg3.lt).cell 0
            have u1 := (Xg3.below (bt hJ.t) Xg3.lt).cell 1
            rw [if_pos (wanted_on rfl rfl s95)]
            go_simp
            exact HK.out 98 _ _ rfl (hJ.same (Nat.zero_le _) (by decide) hin.out rfl (by decide) rfl rfl)
          · clear hcl
            have s95 : b.tmps.getD 95 undef = .bool false := (hS.i 95 (by decide)).trans (hJ.v 6 _ rfl (hwt ⟨6, .guard⟩ (by simp) rfl))
            have s4 : b.tmps.getD 4 undef = .pointer (some ⟨bw4, 0, none⟩) := hS.o 4 (by decide)
            have u0 := (Xw4.below (bt hJ.t) Xw4.lt).cell 0
            have u1 := (Xw4.below (bt hJ.t) Xw4.lt).cell 1
            rw [if_pos (wanted_on rfl rfl s95)]
            go_simp
            exact HK.out 99 _ _ rfl (hJ.same (Nat.zero_le _) (by decide) hin.out rfl (by decide) rfl rfl)
          · clear hcl
            have s95 : b.tmps.getD 95 undef = .bool false := (hS.i 95 (by decide)).trans (hJ.v 6 _ rfl (hwt ⟨6, .guard⟩ (by simp) rfl))
            have s98 : b.tmps.getD 98 undef = (.agg #[.slice A n c, .slice B m d]) := (hS.i 98 (by decide)).trans (hJ.v 9 _ rfl (hwt ⟨9, .data⟩ (by simp) rfl))
            have s99 : b.tmps.getD 99 undef = (.agg #[.int .i64 st, .slice C k cf]) := (hS.i 99 (by decide)).trans (hJ.v 10 _ rfl (hwt ⟨10, .data⟩ (by simp) rfl))
            rw [if_pos (wanted_on rfl rfl s95)]
            go_simp
            refine (I9.out _ (G3.up (bt hJ.t)) (S4.up (bt hJ.t))).mono ?_
            rintro e w6 ⟨rfl, hb⟩
            go_simp
            exact HK.out 100 _ _ rfl (hJ.put (Nat.zero_le _) (by decide) hin.out rfl (by decide) rfl (Tch.of_below hb) trivial (congrArg (Value.int .i64) HEN.out.symm))
          · clear hcl
            have s95 : b.tmps.getD 95 undef = .bool false := (hS.i 95 (by decide)).trans (hJ.v 6 _ rfl (hwt ⟨6, .guard⟩ (by simp) rfl))
            have s97 : b.tmps.getD 97 undef = (.int .i64 rx.st) := (hS.i 97 (by decide)).trans (hJ.v 8 _ rfl (hwt ⟨8, .data⟩ (by simp) rfl))
            have s100 : b.tmps.getD 100 undef = (.int .i64 rx.st) := (hS.i 100 (by decide)).trans (hJ.v 11 _ rfl (hwt ⟨11, .data⟩ (by simp) rfl))
            rw [if_pos (wanted_on rfl rfl s95)]
            go_simp
            exact HK.out 101 _ _ rfl (hJ.same (Nat.zero_le _) (by decide) hin.out rfl (by decide) rfl rfl)
          · clear hcl
            have s95 : b.tmps.getD 95 undef = (.bool false) := (hS.i 95 (by decide)).trans (hJ.v 6 _ rfl (hwt ⟨6, .data⟩ (by simp) rfl))
            have s101 : b.tmps.getD 101 undef = (.bool false) := (hS.i 101 (by decide)).trans (hJ.v 12 _ rfl (hwt ⟨12, .data⟩ (by simp) rfl))
            go_simp
            exact HK.out 102 _ _ rfl (hJ.same (Nat.zero_le _) (by decide) hin.out rfl (by decide) rfl rfl)
          · clear hcl
            have s102 : b.tmps.getD 102 undef = (.bool false) := (hS.i 102 (by decide)).trans (hJ.v 13 _ rfl (hwt ⟨13, .data⟩ (by simp) rfl))
            go_simp
            exact HK.out 103 _ _ rfl (hJ.same (Nat.zero_le _) (by decide) hin.out rfl (by decide) rfl rfl)
          · clear hcl
            have s103 : b.tmps.getD 103 undef = .bool false := (hS.i 103 (by decide)).trans (hJ.v 14 _ rfl (hwt ⟨14, .guard⟩ (by simp) rfl))
            have s3 : b.tmps.getD 3 undef = .pointer (some ⟨bg3, 0, none⟩) := hS.o 3 (by decide)
            have u0 := (Xg3.below (bt hJ.t) Xg3.lt).cell 0
            have u1 := (Xg3.below (bt hJ.t) Xg3.lt).cell 1
            rw [if_pos (wanted_on rfl rfl s103)]
            go_simp
            exact HK.out 104 _ _ rfl (hJ.same (Nat.zero_le _) (by decide) hin.out rfl (by decide) rfl rfl)
          · clear hcl
            have s103 : b.tmps.getD 103 undef = .bool false := (hS.i 103 (by decide)).trans (hJ.v 14 _ rfl (hwt ⟨14, .guard⟩ (by simp) rfl))
            have s5 : b.tmps.getD 5 undef = .pointer (some ⟨bw5, 0, none⟩) := hS.o 5 (by decide)
            have u0 := (Xw5.below (bt hJ.t) Xw5.lt).cell 0
            have u1 := (Xw5.below (bt hJ.t) Xw5.lt).cell 1
            rw [if_pos (wanted_on rfl rfl s103)]
            go_simp
            exact HK.out 105 _ _ rfl (hJ.same (Nat.zero_le _) (by decide) hin.out rfl (by decide) rfl rfl)
          · clear hcl
            have s103 : b.tmps.getD 103 undef = .bool false := (hS.i 103 (by decide)).trans (hJ.v 14 _ rfl (hwt ⟨14, .guard⟩ (by simp) rfl))
            have s104 : b.tmps.getD 104 undef = (.agg #[.slice A n c, .slice B m d]) := (hS.i 104 (by decide)).trans (hJ.v 15 _ rfl (hwt ⟨15, .data⟩ (by simp) rfl))
            have s105 : b.tmps.getD 105 undef = (.agg #[.int .i64 rx.st, .slice C5 k5 f5]) := (hS.i 105 (by decide)).trans (hJ.v 16 _ rfl (hwt ⟨16, .data⟩ (by simp) rfl))
            rw [if_pos (wanted_on rfl rfl s103)]
            go_simp
            refine (Y3.out _ (G3.up (bt hJ.t)) (S5.up (bt hJ.t))).mono ?_
            rintro e w6 ⟨C6, k6, f6, rfl, J6, hb⟩
            have hzz := hJ.t.size
            go_simp
            exact HK.out 106 _ _ rfl (hJ.put (Nat.zero_le _) (by decide) hin.out rfl (by decide) rfl (Tch.of_below hb) trivial ⟨C6, k6, f6, _, rfl, rfl, J6.bd, own_rebase J6.own.row hzz⟩)
          · clear hcl
            have s103 : b.tmps.getD 103 undef = .bool false := (hS.i 103 (by decide)).trans (hJ.v 14 _ rfl (hwt ⟨14, .guard⟩ (by simp) rfl))
            have s3 : b.tmps.getD 3 undef = .pointer (some ⟨bg3, 0, none⟩) := hS.o 3 (by decide)
            have u0 := (Xg3.below (bt hJ.t) Xg3.lt).cell 0
            have u1 := (Xg3.below (bt hJ.t) Xg3.lt).cell 1
            rw [if_pos (wanted_on rfl rfl s103)]
            go_simp
            exact HK.out 107 _ _ rfl (hJ.same (Nat.zero_le _) (by decide) hin.out rfl (by decide) rfl rfl)
          · clear hcl
            have s103 : b.tmps.getD 103 undef = .bool false := (hS.i 103 (by decide)).trans (hJ.v 14 _ rfl (hwt ⟨14, .guard⟩ (by simp) rfl))
            have s4 : b.tmps.getD 4 undef = .pointer (some ⟨bw4, 0, none⟩) := hS.o 4 (by decide)
            have u0 := (Xw4.below (bt hJ.t) Xw4.lt).cell 0
            have u1 := (Xw4.below (bt hJ.t) Xw4.lt).cell 1
            rw [if_pos (wanted_on rfl rfl s103)]
            go_simp
            exact HK.out 108 _ _ rfl (hJ.same (Nat.zero_le _) (by decide) hin.out rfl (by decide) rfl rfl)
          · clear hcl
            have s103 : b.tmps.getD 103 undef = .bool false := (hS.i 103 (by decide)).trans (hJ.v 14 _ rfl (hwt ⟨14, .guard⟩ (by simp) rfl))
            have s107 : b.tmps.getD 107 undef = (.agg #[.slice A n c, .slice B m d]) := (hS.i 107 (by decide)).trans (hJ.v 18 _ rfl (hwt ⟨18, .data⟩ (by simp) rfl))
            have s108 : b.tmps.getD 108 undef = (.agg #[.int .i64 st, .slice C k cf]) := (hS.i 108 (by decide)).trans (hJ.v 19 _ rfl (hwt ⟨19, .data⟩ (by simp) rfl))
            rw [if_pos (wanted_on rfl rfl s103)]
            go_simp
            refine (I10.out _ (G3.up (bt hJ.t)) (S4.up (bt hJ.t))).mono ?_
            rintro e w6 ⟨C6, k6, f6, rfl, J6, hb⟩
            have hzz := hJ.t.size
            go_simp
            exact HK.out 109 _ _ rfl (hJ.put (Nat.zero_le _) (by decide) hin.out rfl (by decide) rfl (Tch.of_below hb) trivial ⟨C6, k6, f6, _, rfl, rfl, J6.bd, own_rebase J6.own.row hzz⟩)
          · clear hcl
            have s103 : b.tmps.getD 103 undef = .bool false := (hS.i 103 (by decide)).trans (hJ.v 14 _ rfl (hwt ⟨14, .guard⟩ (by simp) rfl))
            obtain ⟨C20, k20, f20, l20, hs20, hp20, hk20, o20⟩ := hJ.v 20 _ rfl (hwt ⟨20, .data⟩ (by simp) rfl)
            have s109 : b.tmps.getD 109 undef = .slice C20 k20 f20 := (hS.i 109 (by decide)).trans hs20
            have hp20 : l20 = wz := hp20
            have HPA := Lib.hid hp20
            clear hp20
            rw [if_pos (wanted_on rfl rfl s103)]
            go_simp
            refine (specRev_any C20 k20 f20 l20 _ (ird_of o20 hk20).ln hk20 (ird_of o20 hk20).rd).mono ?_
            rintro e w6 ⟨v6, rfl, o6, hb⟩
            obtain ⟨V6, e6, rfl, _⟩ := own_form o6
            have hzz := hJ.t.size
            go_simp
            exact HK.out 110 _ _ rfl (hJ.put (Nat.zero_le _) (by decide) hin.out rfl (by decide) rfl (Tch.of_below hb) trivial ⟨V6, k20, e6, _, rfl, (congrArg revW HPA.out), hk20, own_rebase o6 hzz⟩)
          · clear hcl
            have s103 : b.tmps.getD 103 undef = .bool false := (hS.i 103 (by decide)).trans (hJ.v 14 _ rfl (hwt ⟨14, .guard⟩ (by simp) rfl))
            obtain ⟨C17, k17, f17, l17, hs17, hp17, hk17, o17⟩ := hJ.v 17 _ rfl (hwt ⟨17, .data⟩ (by simp) rfl)
            have s106 : b.tmps.getD 106 undef = .slice C17 k17 f17 := (hS.i 106 (by decide)).trans hs17
            obtain ⟨C21, k21, f21, l21, hs21, hp21, hk21, o21⟩ := hJ.v 21 _ rfl (hwt ⟨21, .data⟩ (by simp) rfl)
            have s110 : b.tmps.getD 110 undef = .slice C21 k21 f21 := (hS.i 110 (by decide)).trans hs21
            have hp17 : l17 = revW wz := hp17
            have hp21 : l21 = revW wz := hp21
            have HPA := Lib.hid hp17
            have HPB := Lib.hid hp21
            clear hp17 hp21
            rw [if_pos (wanted_on rfl rfl s103)]
            go_simp
            refine (sameInts_any C17 C21 k17 f17 k21 f21 l17 l21 _ (ird_of o17 hk17).ln (ird_of o21 hk21).ln hk17 hk21 (ird_of o17 hk17).rd (ird_of o21 hk21).rd).mono ?_
            rintro e w6 ⟨rfl, hb⟩
            rw [show eqB l17 l21 = true from by rw [HPA.out, HPB.out]; exact eqB_refl _]
            go_simp
            exact HK.out 111 _ _ rfl (hJ.put (Nat.zero_le _) (by decide) hin.out rfl (by decide) rfl (Tch.of_below hb) trivial rfl)
          · clear hcl
            have s103 : b.tmps.getD 103 undef = .bool false := (hS.i 103 (by decide)).trans (hJ.v 14 _ rfl (hwt ⟨14, .guard⟩ (by simp) rfl))
            have s111 : b.tmps.getD 111 undef = (.bool true) := (hS.i 111 (by decide)).trans (hJ.v 22 _ rfl (hwt ⟨22, .data⟩ (by simp) rfl))
            rw [if_pos (wanted_on rfl rfl s103)]
            go_simp
            exact HK.out 112 _ _ rfl (hJ.same (Nat.zero_le _) (by decide) hin.out rfl (by decide) rfl rfl)
          · clear hcl
            have s103 : b.tmps.getD 103 undef = (.bool false) := (hS.i 103 (by decide)).trans (hJ.v 14 _ rfl (hwt ⟨14, .data⟩ (by simp) rfl))
            have s112 : b.tmps.getD 112 undef = (.bool false) := (hS.i 112 (by decide)).trans (hJ.v 23 _ rfl (hwt ⟨23, .data⟩ (by simp) rfl))
            go_simp
            exact HK.out 113 _ _ rfl (hJ.same (Nat.zero_le _) (by decide) hin.out rfl (by decide) rfl rfl)
          · clear hcl
            have s113 : b.tmps.getD 113 undef = (.bool false) := (hS.i 113 (by decide)).trans (hJ.v 24 _ rfl (hwt ⟨24, .data⟩ (by simp) rfl))
            go_simp
            exact HK.out 114 _ _ rfl (hJ.same (Nat.zero_le _) (by decide) hin.out rfl (by decide) rfl rfl)
          · clear hcl
            have s114 : b.tmps.getD 114 undef = .bool false := (hS.i 114 (by decide)).trans (hJ.v 25 _ rfl (hwt ⟨25, .guard⟩ (by simp) rfl))
            have s10 : b.tmps.getD 10 undef = .pointer (some ⟨bw10, 0, none⟩) := hS.o 10 (by decide)
            have u0 := (Xw10.below (bt hJ.t) Xw10.lt).cell 0
            have u1 := (Xw10.below (bt hJ.t) Xw10.lt).cell 1
            rw [if_pos (wanted_on rfl rfl s114)]
            go_simp
            exact HK.out 115 _ _ rfl (hJ.same (Nat.zero_le _) (by decide) hin.out rfl (by decide) rfl rfl)
          · clear hcl
            have s114 : b.tmps.getD 114 undef = .bool false := (hS.i 114 (by decide)).trans (hJ.v 25 _ rfl (hwt ⟨25, .guard⟩ (by simp) rfl))
            have s4 : b.tmps.getD 4 undef = .pointer (some ⟨bw4, 0, none⟩) := hS.o 4 (by decide)
            have u0 := (Xw4.below (bt hJ.t) Xw4.lt).cell 0
            have u1 := (Xw4.below (bt hJ.t) Xw4.lt).cell 1
            rw [if_pos (wanted_on rfl rfl s114)]
            go_simp
            exact HK.out 116 _ _ rfl (hJ.same (Nat.zero_le _) (by decide) hin.out rfl (by decide) rfl rfl)
          · clear hcl
            have s114 : b.tmps.getD 114 undef = .bool false := (hS.i 114 (by decide)).trans (hJ.v 25 _ rfl (hwt ⟨25, .guard⟩ (by simp) rfl))
            have s115 : b.tmps.getD 115 undef = (.agg #[.int .i64 st, .slice C10 k10 f10]) := (hS.i 115 (by decide)).trans (hJ.v 26 _ rfl (hwt ⟨26, .data⟩ (by simp) rfl))
            have s116 : b.tmps.getD 116 undef = (.agg #[.int .i64 st, .slice C k cf]) := (hS.i 116 (by decide)).trans (hJ.v 27 _ rfl (hwt ⟨27, .data⟩ (by simp) rfl))
            rw [if_pos (wanted_on rfl rfl s114)]
            go_simp
            refine (specCompareWalks_is _ (c := f10) (d := cf) st (S10.up (bt hJ.t)) st (S4.up (bt hJ.t))).mono ?_
            rintro e w6 ⟨rfl, hb⟩
            rw [cmpWk_same]
            go_simp
            exact HK.out 117 _ _ rfl (hJ.put (Nat.zero_le _) (by decide) hin.out rfl (by decide) rfl (Tch.of_below hb) trivial rfl)
          · clear hcl
            have s114 : b.tmps.getD 114 undef = .bool false := (hS.i 114 (by decide)).trans (hJ.v 25 _ rfl (hwt ⟨25, .guard⟩ (by simp) rfl))
            have s117 : b.tmps.getD 117 undef = (.int .i64 0) := (hS.i 117 (by decide)).trans (hJ.v 28 _ rfl (hwt ⟨28, .data⟩ (by simp) rfl))
            rw [if_pos (wanted_on rfl rfl s114)]
            go_simp
            exact HK.out 118 _ _ rfl (hJ.same (Nat.zero_le _) (by decide) hin.out rfl (by decide) rfl rfl)
          · clear hcl
            have s114 : b.tmps.getD 114 undef = (.bool false) := (hS.i 114 (by decide)).trans (hJ.v 25 _ rfl (hwt ⟨25, .data⟩ (by simp) rfl))
            have s118 : b.tmps.getD 118 undef = (.bool false) := (hS.i 118 (by decide)).trans (hJ.v 29 _ rfl (hwt ⟨29, .data⟩ (by simp) rfl))
            go_simp
            exact HK.out 119 _ _ rfl (hJ.same (Nat.zero_le _) (by decide) hin.out rfl (by decide) rfl rfl)
          · clear hcl
            have s119 : b.tmps.getD 119 undef = (.bool false) := (hS.i 119 (by decide)).trans (hJ.v 30 _ rfl (hwt ⟨30, .data⟩ (by simp) rfl))
            go_simp
            exact HK.out 120 _ _ rfl (hJ.same (Nat.zero_le _) (by decide) hin.out rfl (by decide) rfl rfl)
          · clear hcl
            have s120 : b.tmps.getD 120 undef = .bool false := (hS.i 120 (by decide)).trans (hJ.v 31 _ rfl (hwt ⟨31, .guard⟩ (by simp) rfl))
            have s9 : b.tmps.getD 9 undef = .slice A9 n9 c9 := hS.o 9 (by decide)
            rw [if_pos (wanted_on rfl rfl s120)]
            go_simp
            exact HK.out 121 _ _ rfl (hJ.same (Nat.zero_le _) (by decide) hin.out rfl (by decide) rfl rfl)
          · clear hcl
            have s120 : b.tmps.getD 120 undef = .bool false := (hS.i 120 (by decide)).trans (hJ.v 31 _ rfl (hwt ⟨31, .guard⟩ (by simp) rfl))
            have s121 : b.tmps.getD 121 undef = (.slice A9 n9 c9) := (hS.i 121 (by decide)).trans (hJ.v 32 _ rfl (hwt ⟨32, .data⟩ (by simp) rfl))
            rw [if_pos (wanted_on rfl rfl s120)]
            go_simp
            exact HK.out 122 _ _ rfl (hJ.same (Nat.zero_le _) (by decide) hin.out rfl (by decide) rfl rfl)
          · clear hcl
            have s120 : b.tmps.getD 120 undef = .bool false := (hS.i 120 (by decide)).trans (hJ.v 31 _ rfl (hwt ⟨31, .guard⟩ (by simp) rfl))
            have s4 : b.tmps.getD 4 undef = .pointer (some ⟨bw4, 0, none⟩) := hS.o 4 (by decide)
            rw [if_pos (wanted_on rfl rfl s120)]
            go_simp
            exact HK.out 123 _ _ rfl (hJ.same (Nat.zero_le _) (by decide) hin.out rfl (by decide) rfl rfl)
          · clear hcl
            have s120 : b.tmps.getD 120 undef = .bool false := (hS.i 120 (by decide)).trans (hJ.v 31 _ rfl (hwt ⟨31, .guard⟩ (by simp) rfl))
            have s123 : b.tmps.getD 123 undef = (.pointer (some ⟨bw4, 1, none⟩)) := (hS.i 123 (by decide)).trans (hJ.v 34 _ rfl (hwt ⟨34, .data⟩ (by simp) rfl))
            have u0 := (Xw4.below (bt hJ.t) Xw4.lt).cell 0
            have u1 := (Xw4.below (bt hJ.t) Xw4.lt).cell 1
            rw [if_pos (wanted_on rfl rfl s120)]
            go_simp
            exact HK.out 124 _ _ rfl (hJ.same (Nat.zero_le _) (by decide) hin.out rfl (by decide) rfl rfl)
          · clear hcl
            have s120 : b.tmps.getD 120 undef = .bool false := (hS.i 120 (by decide)).trans (hJ.v 31 _ rfl (hwt ⟨31, .guard⟩ (by simp) rfl))
            have s124 : b.tmps.getD 124 undef = (.slice C k cf) := (hS.i 124 (by decide)).trans (hJ.v 35 _ rfl (hwt ⟨35, .data⟩ (by simp) rfl))
            rw [if_pos (wanted_on rfl rfl s120)]
            go_simp
            exact HK.out 125 _ _ rfl (hJ.same (Nat.zero_le _) (by decide) hin.out rfl (by decide) rfl rfl)
          · clear hcl
            have s120 : b.tmps.getD 120 undef = .bool false := (hS.i 120 (by decide)).trans (hJ.v 31 _ rfl (hwt ⟨31, .guard⟩ (by simp) rfl))
            have s125 : b.tmps.getD 125 undef = (.int .i64 k) := (hS.i 125 (by decide)).trans (hJ.v 36 _ rfl (hwt ⟨36, .data⟩ (by simp) rfl))
            have hwk := HWK.out
            rw [if_pos (wanted_on rfl rfl s120)]
            go_simp
            exact HK.out 126 _ _ rfl (hJ.same (Nat.zero_le _) (by decide) hin.out rfl (by decide) rfl rfl)
          · clear hcl
            have s120 : b.tmps.getD 120 undef = .bool false := (hS.i 120 (by decide)).trans (hJ.v 31 _ rfl (hwt ⟨31, .guard⟩ (by simp) rfl))
            have s122 : b.tmps.getD 122 undef = (.int .i64 n9) := (hS.i 122 (by decide)).trans (hJ.v 33 _ rfl (hwt ⟨33, .data⟩ (by simp) rfl))
            have s126 : b.tmps.getD 126 undef = (.int .i64 ((k : Int) + 1)) := (hS.i 126 (by decide)).trans (hJ.v 37 _ rfl (hwt ⟨37, .data⟩ (by simp) rfl))
            have hnk := HNK.out
            rw [if_pos (wanted_on rfl rfl s120)]
            go_simp
            exact HK.out 127 _ _ rfl (hJ.same (Nat.zero_le _) (by decide) hin.out rfl (by decide) rfl rfl)
          · clear hcl
            have s120 : b.tmps.getD 120 undef = (.bool false) := (hS.i 120 (by decide)).trans (hJ.v 31 _ rfl (hwt ⟨31, .data⟩ (by simp) rfl))
            have s127 : b.tmps.getD 127 undef = (.bool false) := (hS.i 127 (by decide)).trans (hJ.v 38 _ rfl (hwt ⟨38, .data⟩ (by simp) rfl))
            go_simp
            exact HK.out 128 _ _ rfl (hJ.same (Nat.zero_le _) (by decide) hin.out rfl (by decide) rfl rfl)
        case hend =>
          rw [← hwd]
          intro L f w' hall hJ
          clear hwd
          have h_ : f 128 = .bool false := hJ.v 39 _ rfl (hall 39 (by decide))
          have hb := bt hJ.t
          clear hall hJ HEN HNK HWK Y2 Y3 I9 I10
          obtain ⟨w16, rfl⟩ : ∃ z, z = w' := ⟨_, rfl⟩
          have Bw16 := below_then Bwd hb
          replace Xg3 := Xg3.below hb Xg3.lt
          replace Xw4 := Xw4.below hb Xw4.lt
          replace Xw5 := Xw5.below hb Xw5.lt
          replace Xw10 := Xw10.below hb Xw10.lt
          replace G3 := G3.up hb
          replace S4 := S4.up hb
          replace S5 := S5.up hb
          replace N9 := N9.up hb
          replace S10 := S10.up hb
          clear hb
          clear Bwd
          clear Xg3
          clear Xw4
          clear Xw5
          clear Xw10
          clear G3
          clear S4
          clear S5
          clear N9
          clear S10
          simp only [chs, Act.put, List.setIfInBounds_toArray, List.set_cons_zero, List.set_cons_succ, h_]
          clear h_
          go_wp2_with fail
          refine (drawCompare_any w16 (R0.up Bw16)).mono ?_
          rintro e w17 ⟨s1, C12, k12, f12, s2, C13, k13, f13, rfl, ⟨l12, S12⟩, ⟨l13, S13⟩, hb⟩
          have Bw17 := below_then Bw16 hb
          clear hb
          clear Bw16
          have bA : Below w17.heap.size w17 (w17.alloc (.cells #[.int .i64 s1, .slice C12 k12 f12] 30)) := (Below.refl _ _).alloc (Nat.le_refl _) _
          have Xw12 := Blk.new w17 30 #[.int .i64 s1, .slice C12 k12 f12]
          have BN := below_then Bw17 bA
          replace S12 := S12.up bA
          replace S13 := S13.up bA
          clear bA Bw17
          generalize hww12 : w17.alloc (.cells #[.int .i64 s1, .slice C12 k12 f12] 30) = w18 at *
          generalize hhw12 : w17.heap.size = bw12 at *
          have HWw12 := Lib.hid hww12
          have HHw12 := Lib.hid hhw12
          clear hww12 hhw12
          have Bw18 := BN
          clear BN
          have bA : Below w18.heap.size w18 (w18.alloc (.cells #[.int .i64 s2, .slice C13 k13 f13] 30)) := (Below.refl _ _).alloc (Nat.le_refl _) _
          have Xw13 := Blk.new w18 30 #[.int .i64 s2, .slice C13 k13 f13]
          have BN := below_then Bw18 bA
          replace Xw12 := Xw12.below bA Xw12.lt
          replace S12 := S12.up bA
          replace S13 := S13.up bA
          clear bA Bw18
          generalize hww13 : w18.alloc (.cells #[.int .i64 s2, .slice C13 k13 f13] 30) = w19 at *
          have hsz : w18.heap.size = bw12 + 1 := by rw [← HWw12.out, World.size_alloc, HHw12.out]
          rw [hsz] at Xw13
          clear hsz
          generalize hhw13 : bw12 + 1 = bw13 at *
          have HWw13 := Lib.hid hww13
          have HHw13 := Lib.hid hhw13
          clear hww13 hhw13
          have Bw19 := BN
          clear BN
          obtain ⟨cc, hcc⟩ : ∃ cc, cmpWk s1 l12 s2 l13 = cc := ⟨_, rfl⟩
          have hcn : cmpWk s2 l13 s1 l12 = -cc := by
            rw [← hcc]
            exact cmpWk_neg _ _ _ _
          have hcb := cmpWk_bd s1 l12 s2 l13
          rw [hcc] at hcb
          have hwn : IntKind.i64.wrap (-cc) = -cc := IntWalk.i64_in _ (by omega)
          have i1 := fun w (h : SRd w C12 k12 l12) (h2 : SRd w C13 k13 l13) => implCompareWalks_is w (c := f12) (d := f13) s1 h s2 h2
          have i2 := fun w (h : SRd w C12 k12 l12) (h2 : SRd w C13 k13 l13) => specCompareWalks_is w (c := f12) (d := f13) s1 h s2 h2
          have i3 := fun w (h : SRd w C13 k13 l13) (h2 : SRd w C12 k12 l12) => implCompareWalks_is w (c := f13) (d := f12) s2 h s1 h2
          simp only [hcc] at i1 i2
          simp only [hcn] at i3
          have I1 := Lib.hid i1
          have I2 := Lib.hid i2
          have I3 := Lib.hid i3
          have HWN := Lib.hid hwn
          clear i1 i2 i3 hcc hcn hcb hwn
          have lw120 := Xw12.cell 0
          have lw121 := Xw12.cell 1
          have lw130 := Xw13.cell 0
          have lw131 := Xw13.cell 1
          go_wp2_with fail
          rw [HWw12.out, HHw12.out, HWw13.out, HHw13.out]
          refine (I1.out _ S12 S13).mono ?_
          rintro e w20 ⟨rfl, hb⟩
          clear lw120 lw121 lw130 lw131
          have Bw20 := below_then Bw19 hb
          replace Xw12 := Xw12.below hb Xw12.lt
          replace Xw13 := Xw13.below hb Xw13.lt
          replace S12 := S12.up hb
          replace S13 := S13.up hb
          clear hb
          clear Bw19
          clear I1
          obtain ⟨F, hF⟩ : ∃ F, fmtWk s1 l12 = F := ⟨_, rfl⟩
          obtain ⟨Z, hZ⟩ : ∃ Z : ByteArray, (⟨F.toArray⟩ : ByteArray) = Z := ⟨_, rfl⟩
          have hZe : Z.data.toList = F := by subst hZ; rfl
          have hZs : Z.size ≤ 1048576 := by
            rw [Lib.size_eq, hZe, ← hF]
            exact walk_len s1 l12
          have hbk := walk_back s1 l12
          rw [hF] at hbk
          have f1 := fun w (h : SRd w C12 k12 l12) TP => implFormatWalk_is w s1 (c := f12) h TP
          simp only [hF, hZ] at f1
          have F1 := Lib.hid f1
          have p1 := fun w TP TE TM => implParseWalk_is w Z TP TE TM hZs
          simp only [hZe] at p1
          have HBK := Lib.hid hbk
          have HZ := Lib.hid hZ
          clear f1 hF hZe hZs hbk hZ
          have lw120 := Xw12.cell 0
          have lw121 := Xw12.cell 1
          go_wp2_with fail
          refine (F1.out _ S12 (TP.up Bw20)).mono ?_
          rintro e w21 ⟨rfl, hb⟩
          clear lw120 lw121
          have Bw21 := below_then Bw20 hb
          replace Xw12 := Xw12.below hb Xw12.lt
          replace Xw13 := Xw13.below hb Xw13.lt
          replace S12 := S12.up hb
          replace S13 := S13.up hb
          clear hb
          clear Bw20
          clear F1
          by_cases hF0 : F = []
          · have hrd : prsWkB F = false := by
              rw [HBK.out.1, hF0]
              rfl
            obtain ⟨v, hv⟩ : ∃ v, prsWk F = v := ⟨_, rfl⟩
            simp only [hrd, hv] at p1
            have P1 := Lib.hid p1
            clear p1 hrd hv
            obtain rfl : Z = ⟨#[]⟩ := by
              rw [← HZ.out, hF0]
            clear HZ hF0 HBK
            go_wp2_with fail
            refine (P1.out _ (TP.up Bw21) (TE.up Bw21) (TM.up Bw21)).mono ?_
            rintro e w22 ⟨C16, k16, f16, rfl, J16, hb⟩
            have Bw22 := below_then Bw21 hb
            replace Xw12 := Xw12.below hb Xw12.lt
            replace Xw13 := Xw13.below hb Xw13.lt
            replace S12 := S12.up hb
            replace S13 := S13.up hb
            clear hb
            clear Bw21
            have S16 := RIs.srd J16
            clear J16 P1
            have bA : Below w22.heap.size w22 (w22.alloc (.cells #[.int .i64 v.st, .slice C16 k16 f16] 30)) := (Below.refl _ _).alloc (Nat.le_refl _) _
            have Xw16 := Blk.new w22 30 #[.int .i64 v.st, .slice C16 k16 f16]
            have BN := below_then Bw22 bA
            replace Xw12 := Xw12.below bA Xw12.lt
            replace Xw13 := Xw13.below bA Xw13.lt
            replace S12 := S12.up bA
            replace S13 := S13.up bA
            replace S16 := S16.up bA
            clear bA Bw22
            generalize hww16 : w22.alloc (.cells #[.int .i64 v.st, .slice C16 k16 f16] 30) = w23 at *
            generalize hhw16 : w22.heap.size = bw16 at *
            have HWw16 := Lib.hid hww16
            have HHw16 := Lib.hid hhw16
            clear hww16 hhw16
            have Bw23 := BN
            clear BN
            have lw120 := Xw12.cell 0
            rw [← HWw16.out] at lw120
            have lw121 := Xw12.cell 1
            rw [← HWw16.out] at lw121
            have lw130 := Xw13.cell 0
            rw [← HWw16.out] at lw130
            have lw131 := Xw13.cell 1
            rw [← HWw16.out] at lw131
            go_wp2_with fail
            rw [HWw16.out, HHw16.out]
            refine (I2.out _ S12 S13).mono ?_
            rintro e w24 ⟨rfl, hb⟩
            clear lw120 lw121 lw130 lw131
            have Bw24 := below_then Bw23 hb
            replace Xw12 := Xw12.below hb Xw12.lt
            replace Xw13 := Xw13.below hb Xw13.lt
            replace Xw16 := Xw16.below hb Xw16.lt
            replace S12 := S12.up hb
            replace S13 := S13.up hb
            replace S16 := S16.up hb
            clear hb
            clear Bw23
            clear I2
            have lw130 := Xw13.cell 0
            have lw131 := Xw13.cell 1
            have lw120 := Xw12.cell 0
            have lw121 := Xw12.cell 1
            go_wp2_with fail
            refine (I3.out _ S13 S12).mono ?_
            rintro e w25 ⟨rfl, hb⟩
            clear lw130 lw131 lw120 lw121
            have Bw25 := below_then Bw24 hb
            replace Xw12 := Xw12.below hb Xw12.lt
            replace Xw13 := Xw13.below hb Xw13.lt
            replace Xw16 := Xw16.below hb Xw16.lt
            replace S12 := S12.up hb
            replace S13 := S13.up hb
            replace S16 := S16.up hb
            clear hb
            clear Bw24
            clear I3
            have hwn := HWN.out
            go_wp2
            go_ret
            exact ⟨by simp, Bw25⟩
          · have hrd : prsWkB F = true := by
              rw [HBK.out.1]
              exact decide_eq_true hF0
            have hv := HBK.out.2 hF0
            simp only [hrd, hv] at p1
            have P1 := Lib.hid p1
            clear p1 hrd hv
            have hZ0 : ¬ Z.toList = [] := by
              rw [ByteArray.toList_eq, ← HZ.out]
              exact hF0
            clear HZ hF0 HBK
            go_wp2_with fail
            refine (P1.out _ (TP.up Bw21) (TE.up Bw21) (TM.up Bw21)).mono ?_
            rintro e w22 ⟨C16, k16, f16, rfl, J16, hb⟩
            have Bw22 := below_then Bw21 hb
            replace Xw12 := Xw12.below hb Xw12.lt
            replace Xw13 := Xw13.below hb Xw13.lt
            replace S12 := S12.up hb
            replace S13 := S13.up hb
            clear hb
            clear Bw21
            have S16 := RIs.srd J16
            clear J16 P1
            have bA : Below w22.heap.size w22 (w22.alloc (.cells #[.int .i64 s1, .slice C16 k16 f16] 30)) := (Below.refl _ _).alloc (Nat.le_refl _) _
            have Xw16 := Blk.new w22 30 #[.int .i64 s1, .slice C16 k16 f16]
            have BN := below_then Bw22 bA
            replace Xw12 := Xw12.below bA Xw12.lt
            replace Xw13 := Xw13.below bA Xw13.lt
            replace S12 := S12.up bA
            replace S13 := S13.up bA
            replace S16 := S16.up bA
            clear bA Bw22
            generalize hww16 : w22.alloc (.cells #[.int .i64 s1, .slice C16 k16 f16] 30) = w23 at *
            generalize hhw16 : w22.heap.size = bw16 at *
            have HWw16 := Lib.hid hww16
            have HHw16 := Lib.hid hhw16
            clear hww16 hhw16
            have Bw23 := BN
            clear BN
            have lw120 := Xw12.cell 0
            rw [← HWw16.out] at lw120
            have lw121 := Xw12.cell 1
            rw [← HWw16.out] at lw121
            have lw130 := Xw13.cell 0
            rw [← HWw16.out] at lw130
            have lw131 := Xw13.cell 1
            rw [← HWw16.out] at lw131
            go_wp2_with fail
            rw [HWw16.out, HHw16.out]
            refine (I2.out _ S12 S13).mono ?_
            rintro e w24 ⟨rfl, hb⟩
            clear lw120 lw121 lw130 lw131
            have Bw24 := below_then Bw23 hb
            replace Xw12 := Xw12.below hb Xw12.lt
            replace Xw13 := Xw13.below hb Xw13.lt
            replace Xw16 := Xw16.below hb Xw16.lt
            replace S12 := S12.up hb
            replace S13 := S13.up hb
            replace S16 := S16.up hb
            clear hb
            clear Bw23
            clear I2
            have lw130 := Xw13.cell 0
            have lw131 := Xw13.cell 1
            have lw120 := Xw12.cell 0
            have lw121 := Xw12.cell 1
            go_wp2_with fail
            refine (I3.out _ S13 S12).mono ?_
            rintro e w25 ⟨rfl, hb⟩
            clear lw130 lw131 lw120 lw121
            have Bw25 := below_then Bw24 hb
            replace Xw12 := Xw12.below hb Xw12.lt
            replace Xw13 := Xw13.below hb Xw13.lt
            replace Xw16 := Xw16.below hb Xw16.lt
            replace S12 := S12.up hb
            replace S13 := S13.up hb
            replace S16 := S16.up hb
            clear hb
            clear Bw24
            clear I3
            have hwn := HWN.out
            have lw160 := Xw16.cell 0
            have lw161 := Xw16.cell 1
            have lw120 := Xw12.cell 0
            have lw121 := Xw12.cell 1
            go_wp2_with fail
            refine (implCompareWalks_is _ (c := f16) (d := f12) s1 S16 s1 S12).mono ?_
            rintro e w26 ⟨rfl, hb⟩
            clear lw160 lw161 lw120 lw121
            rw [cmpWk_same]
            have Bw26 := below_then Bw25 hb
            replace Xw12 := Xw12.below hb Xw12.lt
            replace Xw13 := Xw13.below hb Xw13.lt
            replace Xw16 := Xw16.below hb Xw16.lt
            replace S12 := S12.up hb
            replace S13 := S13.up hb
            replace S16 := S16.up hb
            clear hb
            clear Bw25
            go_wp2
            go_ret
            exact ⟨by simp [hZ0], Bw26⟩

theorem met (os : Os) (args : Array Value) : laidMet Tryz.prog Rows.fnWalksRow.laid ((World.laidAll Tryz.prog os Rows.fnWalksRow.laid).forCall (fun _ _ => 0) ⟨#[], args, []⟩).memory :=
  laidMet_laidAll _ (by as_aux_lemma => kernel_rfl) (by as_aux_lemma => kernel_rfl)
theorem plainly (w : World) : laidMetH Tryz.prog Rows.fnWalksRow.laid w = laidMet Tryz.prog Rows.fnWalksRow.laid w := MakeChecks.laidMetH_plain _ _ _ (by as_aux_lemma => kernel_rfl)
set_option maxRecDepth 100000 in
theorem lifted (os : Os) (started : os.Started) (H : Type) (enc : TypeId × Value → H) (F : Stop.Interp) :
    ReturnsInHanded {} Tryz.checked os 3 .any ((OpenSpec.ofChange Rows.fnWalksSpec).preRow enc Tryz.prog Tryz.f3 Rows.fnWalksRow.domain false Rows.fnWalksRow.laid) (((OpenSpec.ofChange Rows.fnWalksSpec).at F).post enc Tryz.prog Tryz.f3 false true false false) := by
  refine returnsInHanded_of_row (C := Tryz.checked) (s := OpenSpec.ofChange Rows.fnWalksSpec) own started (by as_aux_lemma => kernel_rfl) Tryz.func3
    (ChangeSpec.witness_shaped (enc := enc) (C := Tryz.checked) (os := os) (X := fun w _ => laidMetH Tryz.prog Rows.fnWalksRow.laid w) false (World.laidAll Tryz.prog os Rows.fnWalksRow.laid) #[.slice none 0 0] 8 (World.laidAll_os _ _ _) (World.shaped_of_ZipB (by as_aux_lemma => kernel_rfl) (by as_aux_lemma => kernel_rfl)) (by as_aux_lemma => kernel_rfl) (by as_aux_lemma => kernel_rfl) (by as_aux_lemma => kernel_rfl) (by rw [plainly]; exact met os _)) ?_
  intro W base args ds gs before hval0 hW _ _ _ hL0 hS _
  have hL : laidMetH Tryz.prog Rows.fnWalksRow.laid W := hL0
  rw [plainly] at hL
  have hval : ∀ (j : Nat) t v, Tryz.f3.params[j]? = some t → args[j]? = some v → Value.okWide Tryz.prog W .any base t v := hval0
  have hW' := hW
  obtain ⟨p, q, hA0, hV, rfl, hfz, hnd⟩ := hW
  have hA : DataW.TrodAll enc Tryz.prog W 0 (fun _ => true) true Tryz.f3.params.toList args.toList ds p := hA0
  rw [Tryz.params3] at hA hval
  obtain ⟨v0, vs0, d0, ds0, p0, q0, hargs, rfl, rfl, h0, r0⟩ := trodAll_cons hA
  obtain ⟨rfl, rfl, rfl⟩ := trodAll_nil r0
  obtain rfl : args = #[v0] := by cases args; simp_all
  obtain ⟨rfl, rfl⟩ := trodVars_none hV
  have k0 := h0
  have lt0 : ∀ x ∈ p0, x.block < W.heap.size := by obtain ⟨m, hm⟩ := k0; exact DataW.trod_lt m _ _ _ hm
  have g0 := argBytes (hval 0 22 v0 rfl rfl) h0
  clear hA0 hval0
  refine (walk W hS hL v0 g0).mono fun e W' ⟨he, bel⟩ => ?_
  subst he
  exact ⟨_, rfl, _, _, _, [], _, [], hW', trodAll_mk1 (shut_bool Tryz.underlying4 _), (trodAll_cons_mk (Below.trod laidOut (by as_aux_lemma => kernel_rfl) (of_decide_eq_true (by as_aux_lemma => kernel_rfl)) k0 bel lt0) trodAll_mk0), rfl, bel.frame _, fun h => by cases h⟩

set_option maxHeartbeats 8000000 in
theorem closed : joinedFacts Tryz.prog 3 Tryz.f3 Rows.fnWalksSpec Rows.fnWalksRow = true := by
  unfold joinedFacts
  simp only [Bool.and_eq_true]
  repeat' apply And.intro
  all_goals first | with_reducible exact frMay | with_reducible exact frLifts _ rfl | with_reducible exact frMake _ rfl | (as_aux_lemma => kernel_rfl)
set_option maxRecDepth 100000 in
set_option maxHeartbeats 1000000 in
theorem over : Rows.fnWalksRow.holds Tryz.pinned (OpenSpec.ofChange Rows.fnWalksSpec) :=
  OpenClaim.holds_of_cond 3 Tryz.f3 rfl rfl rfl rfl rfl rfl rfl ⟨rfl, rfl, rfl, rfl, rfl⟩ rfl rfl rfl rfl rfl (by as_aux_lemma => kernel_rfl) Tryz.func3 closed
    (of_decide_eq_true (by as_aux_lemma => kernel_rfl)) (by unfold Func.isWrapper; first | (rw [if_pos (by decide +kernel)]; kernel_rfl) | (rw [if_neg (by decide +kernel)]; exact ⟨rfl, rfl⟩))
    (fun os started H enc _ F => by rw [OpenClaim.pre_eq_preRow]; exact lifted os started H enc F)

theorem plain (f : FuncId) (fn : Func) (hf : Tryz.pinned.checked.prog.funcNamed "loop.example/g01922/laws.FnWalks" = some f) (hfn : Tryz.pinned.checked.prog.funcs[f]? = some fn) :
    true = Tryz.pinned.checked.prog.looks [] ∧ ∀ (j : Nat) t, fn.params[j]? = some t → Tryz.pinned.checked.prog.wantsStandIn t = false := by
  obtain rfl : f = 3 := Option.some.inj ((show Tryz.prog.funcNamed "loop.example/g01922/laws.FnWalks" = some 3 by kernel_rfl).symm.trans hf) |>.symm
  obtain rfl : fn = Tryz.f3 := (Option.some.inj (Tryz.func3.symm.trans hfn)).symm
  refine ⟨by kernel_rfl, fun j t ht => ?_⟩
  rw [Tryz.params3] at ht
  have hm : t ∈ [22] := by simpa using Array.mem_of_getElem? ht
  have hall : ([22].all fun u => !Tryz.prog.wantsStandIn u) = true := by kernel_rfl
  exact (show Tryz.prog.wantsStandIn t = false by simpa using List.all_eq_true.1 hall t hm)

theorem proved : Rows.FnWalksCardSaid :=
  Claim7.holds_tied_plain_at .later [] _ _ _ _ over (fun _ h => by cases h) (by as_aux_lemma => kernel_rfl) (fun _ h => by cases h) fnWalks_row_tie rfl ⟨rfl, rfl⟩ (by as_aux_lemma => kernel_rfl) rfl plain (by as_aux_lemma => kernel_rfl)
end Go.Proofs.YtomkgnamjfiocaaGreatDoor.fnWalks
