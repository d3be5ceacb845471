/- A graph and a walk drawn: l5Any. (Printed by wip/wk_f.py.) -/
import Derived.Test.YtomkgnamjfiocaaGreatDoorWkE
import Derived.BigRegion
namespace Go.Proofs.YtomkgnamjfiocaaGreatDoor
open Go.RowKit Go.ChangeShapes Go.WideShapes Go.ChangeAt Go.Deep
set_option linter.unusedVariables false
theorem Tch.sc {lo hi b : Nat} {w w' : World} (h : Tch lo hi w w') (h1 : lo ≤ b) (h2 : b < hi) (i : Nat) (u : Value) : Tch lo hi w (w'.setCell ⟨b, i, none⟩ u) := h.setCell (p := ⟨b, i, none⟩) h1 h2 u
theorem set_drew (w : World) (p : Addr) (u : Value) : (w.setCell p u).drew = w.drew.setCell p u := by
  first | rfl | simp
theorem Tch.glue {lo hi cb : Nat} {w W w' : World} (h : Tch cb (cb + 1) w W) (t : Tch lo hi W w') (hlo : w.heap.size ≤ lo) : Tch cb (cb + 1) w w' :=
  ⟨t.os.trans h.os, t.tape.trans h.tape, t.output.trans h.output, Nat.le_trans h.size t.size, fun k hk hd => (t.block k (Nat.lt_of_lt_of_le hk h.size) (.inl (by omega))).trans (h.block k hk hd)⟩
/-- The length that stands in a walk's box. -/
def lenAt (w : World) (b : Nat) : Nat := match w.cell? ⟨b, 1, none⟩ with
  | some (.slice _ n _) => n
  | _ => 0
theorem lenAt_of {w : World} {b : Nat} {s : Int} {C : Option Addr} {k f : Nat} (X : Blk w b 30 #[.int .i64 s, .slice C k f]) : lenAt w b = k := by
  unfold lenAt
  rw [X.cell 1]
  rfl
set_option maxRecDepth 4000 in
set_option maxHeartbeats 16000000 in
theorem l5Any_any (w : World) {cb : Nat} (hC : Cur w cb) :
    Calls Tryz.prog 38 #[.pointer (some ⟨cb, 0, none⟩)] w fun e w' => ∃ (A : Option Addr) (n c : Nat) (B : Option Addr) (m d : Nat) (s : Int) (C : Option Addr) (k f : Nat), e = .returned (.tuple #[.agg #[.slice A n c, .slice B m d], .agg #[.int .i64 s, .slice C k f]]) ∧ n ≤ 5 ∧ m ≤ 12 ∧ k ≤ 100 ∧ (∃ g : G, OwG w.heap.size w' A n c B m d g) ∧ (∃ L : List St, w'.ownsRow w.heap.size 68 2 (.slice C k f) k (stcs L)) ∧ Cur w' cb ∧ Tch cb (cb + 1) w w' := by
  have hcb := hC.lt
  have b0 : Below w.heap.size w (w.alloc (.cells #[.slice none 0 0, .slice none 0 0] 27)) := (Below.refl _ _).alloc (Nat.le_refl _) _
  have b1 : Below w.heap.size w ((w.alloc (.cells #[.slice none 0 0, .slice none 0 0] 27)).alloc (.cells #[.int .i64 0, .slice none 0 0] 30)) := b0.alloc b0.size _
  have R0 := (Blk.new w 27 #[.slice none 0 0, .slice none 0 0]).alloc (.cells #[.int .i64 0, .slice none 0 0] 30)
  have R1 := Blk.new (w.alloc (.cells #[.slice none 0 0, .slice none 0 0] 27)) 30 #[.int .i64 0, .slice none 0 0]
  rw [show (w.alloc (.cells #[.slice none 0 0, .slice none 0 0] 27)).heap.size = w.heap.size + 1 by simp] at R1
  have C0 := hC.below b1
  have T0 : Tch cb (cb + 1) w ((w.alloc (.cells #[.slice none 0 0, .slice none 0 0] 27)).alloc (.cells #[.int .i64 0, .slice none 0 0] 30)) := Tch.of_below b1
  generalize hw0 : (w.alloc (.cells #[.slice none 0 0, .slice none 0 0] 27)).alloc (.cells #[.int .i64 0, .slice none 0 0] 30) = w0 at *
  have HW0 := Lib.hid hw0
  have hz0 : w.heap.size + 2 ≤ w0.heap.size := R1.lt
  clear hw0 b0 b1
  go_enter Tryz.func38, Tryz.ntmps38
  go_wp2_with fail
  try rw [HW0.out]
  refine (l3Any_any w0 C0).mono ?_
  rintro e w1 ⟨A, n, c, B, m, d, rfl, hn, hm, ⟨vs, es, J⟩, C1, t1⟩
  obtain ⟨g, hg⟩ : ∃ g : G, (⟨vs, es⟩ : G) = g := ⟨_, rfl⟩
  have O1 : OwG w0.heap.size w1 A n c B m d g := by
    rw [← hg]
    exact OwG.of (g := ⟨vs, es⟩) J (Nat.le_refl _)
  have R01 := R0.tch t1 (by omega)
  have R11 := R1.tch t1 (by omega)
  have T1 := t1
  clear hg J t1 R0 R1 C0
  have bG : Below w1.heap.size w1 (w1.alloc (.cells #[.slice A n c, .slice B m d] 27)) := (Below.refl _ _).alloc (Nat.le_refl _) _
  have G2 := Blk.new w1 27 #[.slice A n c, .slice B m d]
  have R02 := R01.below bG R01.lt
  have R12 := R11.below bG R11.lt
  have O2 := O1.below bG
  have C2 := C1.below bG
  have T2 := T1.below bG
  have hz1 : w0.heap.size ≤ w1.heap.size := T1.size
  generalize hw2 : w1.alloc (.cells #[.slice A n c, .slice B m d] 27) = w2 at *
  generalize hgb : w1.heap.size = gb at *
  have HW2 := Lib.hid hw2
  have HGB := Lib.hid hgb
  clear hw2 hgb bG R01 R11 O1 C1 T1
  go_wp2_with fail
  rw [HW2.out, HGB.out]
  refine (l5Walk_any w2 (c := c) (d := d) C2 O2 (by omega) hn hm).mono ?_
  rintro e w3 ⟨s, C, k, f, rfl, hk, ⟨L, H3⟩, C3, t3⟩
  have hz2 : w0.heap.size ≤ w2.heap.size := T2.size
  have hg2 := G2.lt
  have R03 := R02.tch t3 (by omega)
  have R13 := R12.tch t3 (by omega)
  have G3 := G2.tch t3 (by omega)
  have O3 := O2.past t3 (by omega)
  have T3 := T2.trans t3
  clear t3 R02 R12 G2 O2 C2 T2 HW2 HGB
  have hz3 : w0.heap.size ≤ w3.heap.size := T3.size
  have bW : Below w3.heap.size w3 (w3.alloc (.cells #[.int .i64 s, .slice C k f] 30)) := (Below.refl _ _).alloc (Nat.le_refl _) _
  have HB : Wt w0 cb w3.heap.size [(w.heap.size, 27, #[.slice none 0 0, .slice none 0 0]), (w.heap.size + 1, 30, #[.int .i64 0, .slice none 0 0]), (gb, 27, #[.slice A n c, .slice B m d])] s (.slice C k f) k L A n c B m d g w0.heap.size (w3.alloc (.cells #[.int .i64 s, .slice C k f] 30)) := by
    refine ⟨by omega, hz3, by omega, by have := H3.1; rw [stcs_len] at this; omega, ?_, Blk.new w3 30 #[.int .i64 s, .slice C k f], own_below (own_rebase H3 hz2) bW (Nat.le_refl _), O3.below bW, C3.below bW, T3.below bW⟩
    intro x hx
    rcases List.mem_cons.1 hx with rfl | hx
    · exact ⟨R03.below bW R03.lt, Nat.ne_of_lt R03.lt, (show (27 : TypeId) ≠ 68 from by decide), Nat.ne_of_gt hcb⟩
    · rcases List.mem_cons.1 hx with rfl | hx
      · exact ⟨R13.below bW R13.lt, Nat.ne_of_lt R13.lt, (show (30 : TypeId) ≠ 68 from by decide), Nat.ne_of_gt (Nat.lt_succ_of_lt hcb)⟩
      · rcases List.mem_cons.1 hx with rfl | hx
        · exact ⟨G3.below bW G3.lt, Nat.ne_of_lt G3.lt, (show (27 : TypeId) ≠ 68 from by decide), by dsimp only; omega⟩
        · cases hx
  have hgw : gb < w3.heap.size := G3.lt
  generalize hw4 : w3.alloc (.cells #[.int .i64 s, .slice C k f] 30) = w4 at *
  generalize hwb : w3.heap.size = wb at *
  have HW4 := Lib.hid hw4
  have HWB := Lib.hid hwb
  clear hw4 hwb bW R03 R13 G3 O3 C3 T3 H3
  go_wp2_with fail
  rw [HW4.out, HWB.out]
  refine (l1Below_all w4 HB.CR 10 (by omega)).mono ?_
  rintro e w5 ⟨q, rfl, hq0, hq1, C5, t5⟩
  replace HB := HB.tch t5 C5
  clear t5 C5 HW4 HWB
  by_cases h0 : q = 0
  · subst h0
    have G0 : Blk _ gb 27 #[.slice A n c, .slice B m d] := (HB.XK _ (.tail _ (.tail _ (.head _)))).1
    have a0 := G0.cell 0
    have a1 := G0.cell 1
    go_wp2_with fail
    refine (l4Node_any w5 (c := c) (d := d) (B := B) (m := m) HB.CR hn).mono ?_
    rintro e w6 ⟨y, rfl, hwf, C6, t6⟩
    replace HB := HB.tch t6 C6
    clear t6 C6 G0 a0 a1 hwf
    have z0 := HB.XW.cell 0
    have z1 := HB.XW.frozen 0
    replace HB := HB.start y
    have hwl := HB.XW.lt
    have hw0 := HB.hwb
    have R0 : Blk _ w.heap.size 27 #[.slice none 0 0, .slice none 0 0] := (HB.XK _ (.head _)).1
    have R1 : Blk _ (w.heap.size + 1) 30 #[.int .i64 0, .slice none 0 0] := (HB.XK _ (.tail _ (.head _))).1
    have G0 : Blk _ gb 27 #[.slice A n c, .slice B m d] := (HB.XK _ (.tail _ (.tail _ (.head _)))).1
    have XW := HB.XW
    have ne1 : w.heap.size ≠ gb := by omega
    have ne2 : w.heap.size + 1 ≠ gb := by omega
    have ne3 : w.heap.size ≠ wb := by omega
    have ne4 : w.heap.size + 1 ≠ wb := by omega
    have ne5 : w.heap.size + 1 ≠ w.heap.size := by omega
    have ne6 : w.heap.size ≠ w.heap.size + 1 := by omega
    have r0 := R0.cell 0
    have r1 := R0.cell 1
    have q0 := R0.frozen 0
    have q1 := R0.frozen 1
    have r2 := R1.cell 0
    have r3 := R1.cell 1
    have q2 := R1.frozen 0
    have q3 := R1.frozen 1
    have g0 := G0.cell 0
    have g1 := G0.cell 1
    have x0 := XW.cell 0
    have x1 := XW.cell 1
    have r0_ := R0.drew.cell 0
    have r1_ := R0.drew.cell 1
    have q0_ := R0.drew.frozen 0
    have q1_ := R0.drew.frozen 1
    have r2_ := R1.drew.cell 0
    have r3_ := R1.drew.cell 1
    have q2_ := R1.drew.frozen 0
    have q3_ := R1.drew.frozen 1
    have g0_ := G0.drew.cell 0
    have g1_ := G0.drew.cell 1
    have x0_ := XW.drew.cell 0
    have x1_ := XW.drew.cell 1
    have TD := (T0.trans HB.T).drew
    have CD := HB.CR.below (Below.refl _ _).drew
    have OD := HB.O.below (Below.refl _ _).drew
    have HD := own_below HB.ho (Below.refl _ _).drew (Nat.le_refl _)
    have hkk : k ≤ 100 := by omega
    clear HB R0 R1 G0 XW
    go_wp2_with fail
    go_region
    all_goals
      go_wp2
      refine bodyPost_ret (v := .tuple #[.agg #[.slice A n c, .slice B m d], .agg #[.int .i64 y, .slice C k f]]) ?_ rfl ?_
      · simp [results, Tryz.results38, go_sem]
        go_simp
      · simp only [set_drew]
        refine ⟨A, n, c, B, m, d, y, C, k, f, rfl, hn, hm, hkk, ⟨g, (OD.past (lo := w.heap.size) (hi := w.heap.size + 2) ?_ hz0).rebase (by omega)⟩, ⟨L, own_rebase (own_past (lo := w.heap.size) (hi := w.heap.size + 2) HD ?_ hz0) (by omega)⟩, CD.tch (lo := w.heap.size) (hi := w.heap.size + 2) ?_ hcb, TD.glue (lo := w.heap.size) (hi := w.heap.size + 2) ?_ (Nat.le_refl _)⟩
        all_goals
          repeat (with_reducible refine Tch.sc ?_ (by omega) (by omega) _ _)
          exact Tch.refl _ _ _
  · by_cases h1 : q = 1
    · subst h1
      have HBd := HB.below (Below.refl _ _).drew
      have G0 : Blk w5.drew gb 27 #[.slice A n c, .slice B m d] := (HBd.XK _ (.tail _ (.tail _ (.head _)))).1
      have a0 := G0.cell 0
      have a1 := G0.cell 1
      have b1 := HBd.XW.cell 1
      have hbg := HB.hbg
      clear HB
      go_wp2_with fail
      go_region_law (first
        | (refine ap_step _ app_step (by decide) w0.heap.size (.tmp 24) (.tmp 28) rfl rfl _ _ _ rfl HBa.ho _ _ 1 1 _ rfl rdn (stcs_one _) qs hle ?_; intro v7 w7 hown7 hg7 hat7; clear hat7; obtain ⟨V7, e7, rfl, _⟩ := own_form hown7; have XW7 := blk_grown HBa.XW HBa.ho hg7 (by decide); have b7 := XW7.cell 1; have bf7 := XW7.frozen 1; have HB7 := HBa.app x (v' := .slice V7 (k + 1) e7) hg7 (by rw [stcs_append]; exact hown7))
        | (go_simp; go_at_call 85; refine (l4Step_any _ (c := c) (d := d) HBd.CR HBd.O hbg hm).mono ?_; rintro e w6 ⟨x, rfl, C6, t6⟩; have HB6 := HBd.tch t6 C6; have b2 := HB6.XW.cell 1; have bA : Below w6.heap.size w6 (w6.alloc (.cells #[.int .i64 x.ed, .bool x.inv] 68)) := (Below.refl _ _).alloc (Nat.le_refl _) _; have HBa := HB6.below bA; have b3 := HBa.XW.cell 1; have rdn := (srd_lit w6 x).rd; have qs : Small (k + 1) := small_of (by omega); have hle : w0.heap.size ≤ (World.heap (w6.alloc (.cells #[.int .i64 x.ed, .bool x.inv] 68))).size := HBa.T.size))
      all_goals
        have HB := HB7
        clear HB7 HBd HBa HB6 XW7 b1 b2 b3 b7 bf7 a0 a1 G0 hg7 hown7 rdn
        have hwl := HB.XW.lt
        have hw0 := HB.hwb
        have R0 : Blk _ w.heap.size 27 #[.slice none 0 0, .slice none 0 0] := (HB.XK _ (.head _)).1
        have R1 : Blk _ (w.heap.size + 1) 30 #[.int .i64 0, .slice none 0 0] := (HB.XK _ (.tail _ (.head _))).1
        have G0 : Blk _ gb 27 #[.slice A n c, .slice B m d] := (HB.XK _ (.tail _ (.tail _ (.head _)))).1
        have XW := HB.XW
        have ne1 : w.heap.size ≠ gb := by omega
        have ne2 : w.heap.size + 1 ≠ gb := by omega
        have ne3 : w.heap.size ≠ wb := by omega
        have ne4 : w.heap.size + 1 ≠ wb := by omega
        have ne5 : w.heap.size + 1 ≠ w.heap.size := by omega
        have ne6 : w.heap.size ≠ w.heap.size + 1 := by omega
        have r0 := R0.cell 0
        have r1 := R0.cell 1
        have q0 := R0.frozen 0
        have q1 := R0.frozen 1
        have r2 := R1.cell 0
        have r3 := R1.cell 1
        have q2 := R1.frozen 0
        have q3 := R1.frozen 1
        have g0 := G0.cell 0
        have g1 := G0.cell 1
        have x0 := XW.cell 0
        have x1 := XW.cell 1
        have r0_ := R0.drew.cell 0
        have r1_ := R0.drew.cell 1
        have q0_ := R0.drew.frozen 0
        have q1_ := R0.drew.frozen 1
        have r2_ := R1.drew.cell 0
        have r3_ := R1.drew.cell 1
        have q2_ := R1.drew.frozen 0
        have q3_ := R1.drew.frozen 1
        have g0_ := G0.drew.cell 0
        have g1_ := G0.drew.cell 1
        have x0_ := XW.drew.cell 0
        have x1_ := XW.drew.cell 1
        have TD := (T0.trans HB.T).drew
        have CD := HB.CR.below (Below.refl _ _).drew
        have OD := HB.O.below (Below.refl _ _).drew
        have HD := own_below HB.ho (Below.refl _ _).drew (Nat.le_refl _)
        have hkk : k + 1 ≤ 100 := by omega
        clear HB R0 R1 G0 XW
        go_wp2_with fail
        go_region
        all_goals
          go_wp2
          refine bodyPost_ret (v := .tuple #[.agg #[.slice A n c, .slice B m d], .agg #[.int .i64 s, .slice V7 (k + 1) e7]]) ?_ rfl ?_
          · simp [results, Tryz.results38, go_sem]
            go_simp
          · simp only [set_drew]
            refine ⟨A, n, c, B, m, d, s, V7, (k + 1), e7, rfl, hn, hm, hkk, ⟨g, (OD.past (lo := w.heap.size) (hi := w.heap.size + 2) ?_ hz0).rebase (by omega)⟩, ⟨(L ++ [x]), own_rebase (own_past (lo := w.heap.size) (hi := w.heap.size + 2) HD ?_ hz0) (by omega)⟩, CD.tch (lo := w.heap.size) (hi := w.heap.size + 2) ?_ hcb, TD.glue (lo := w.heap.size) (hi := w.heap.size + 2) ?_ (Nat.le_refl _)⟩
            all_goals
              repeat (with_reducible refine Tch.sc ?_ (by omega) (by omega) _ _)
              exact Tch.refl _ _ _
    · by_cases h2 : q = 2
      · subst h2
        go_wp2_with fail
        refine (l1Below_all w5 HB.CR 5 (by omega)).mono ?_
        rintro e w6 ⟨z, rfl, hzz0, hzz1, C6, t6⟩
        replace HB := HB.tch t6 C6
        clear t6 C6
        obtain ⟨Z, rfl⟩ : ∃ Z : Nat, z = (Z : Int) := ⟨z.toNat, by omega⟩
        have hwz : IntKind.i64.wrap (58 + (Z : Int)) = 58 + (Z : Int) := IntWalk.i64_in _ (by omega)
        go_wp2
        go_loopw [] (fun wr => ∃ (C : Option Addr) (k f : Nat) (L : List St), k ≤ 100 ∧ Wt w0 cb wb [(w.heap.size, 27, #[.slice none 0 0, .slice none 0 0]), (w.heap.size + 1, 30, #[.int .i64 0, .slice none 0 0]), (gb, 27, #[.slice A n c, .slice B m d])] s (.slice C k f) k L A n c B m d g w0.heap.size wr) (fun wr => 100 - lenAt wr wb)
        case atStart => exact ⟨C, k, f, L, by omega, HB⟩
        case round =>
          clear HB hk hwz
          obtain ⟨C, k, f, L, hk, HB⟩ := hrel
          have hln := HB.lL
          have hml := lenAt_of HB.XW
          by_cases hgo : 0 < k ∧ (k : Int) < 58 + (Z : Int)
          · obtain ⟨Q, rfl⟩ : ∃ Q, k = Q + 1 := ⟨k - 1, by omega⟩
            have hg1 : (0 : Int) < ((Q + 1 : Nat) : Int) := by omega
            have hg2 : ((Q + 1 : Nat) : Int) < 58 + (Z : Int) := hgo.2
            have hwq : IntKind.i64.wrap (((Q + 1 : Nat) : Int) - 1) = (Q : Int) := by rw [IntKind.wrap_i64]; omega
            have hQ0 : ¬ (Q : Int) < 0 := by omega
            have hQd : decide ((Q : Int) < 0) = false := by simp
            have hQl : (Q : Int) < ((Q + 1 : Nat) : Int) := by omega
            obtain ⟨sb, so, rfl, _, x, hx, z0, z1⟩ := step_at (Reads.of_own HB.ho) hln (Nat.lt_succ_self Q)
            have y1 := HB.XW.cell 1
            have bD : Below wr.heap.size wr (wr.alloc (.cells #[.int .i64 x.ed, .bool x.inv] 68)) := (Below.refl _ _).alloc (Nat.le_refl _) _
            have XD := Blk.new wr 68 #[.int .i64 x.ed, .bool x.inv]
            have hov := HB.ho
            have hwl := HB.XW.lt
            replace HB := HB.below bD
            have bA : Below (World.heap (wr.alloc (.cells #[.int .i64 x.ed, .bool x.inv] 68))).size (wr.alloc (.cells #[.int .i64 x.ed, .bool x.inv] 68)) ((wr.alloc (.cells #[.int .i64 x.ed, .bool x.inv] 68)).alloc (.cells #[.int .i64 x.ed, .bool (!x.inv)] 68)) := (Below.refl _ _).alloc (Nat.le_refl _) _
            have y2 := HB.XW.cell 1
            have HBa := HB.below bA
            have rdn := (srd_lit (wr.alloc (.cells #[.int .i64 x.ed, .bool x.inv] 68)) ⟨x.ed, !x.inv⟩).rd
            rw [show (World.heap (wr.alloc (.cells #[.int .i64 x.ed, .bool x.inv] 68))).size = wr.heap.size + 1 from by simp] at rdn
            have q3 : Small (Q + 1 + 1) := small_of (by omega)
            have hle : w0.heap.size ≤ (World.heap ((wr.alloc (.cells #[.int .i64 x.ed, .bool x.inv] 68)).alloc (.cells #[.int .i64 x.ed, .bool (!x.inv)] 68))).size := HBa.T.size
            clear bA bD HB XD hx hgo hln
            go_wp2_with (at_builtin; refine ap_plain _ app_step (by decide) w0.heap.size (.tmp 56) (.tmp 63) rfl rfl _ _ _ rfl HBa.ho _ _ 1 1 _ rfl rdn (stcs_one _) q3 hle ?_; intro v7 w7 hown7 hg7 hat7; clear hat7; obtain ⟨V7, e7, rfl, _⟩ := own_form hown7; have XW7 := blk_grown HBa.XW HBa.ho hg7 (by decide); have b7 := XW7.cell 1; have bf7 := XW7.frozen 1; have HB7 := HBa.app ⟨x.ed, !x.inv⟩ (v' := .slice V7 (Q + 1 + 1) e7) hg7 (by rw [stcs_append]; exact hown7))
            have hm7 := lenAt_of HB7.XW
            go_roundw
            case rel => exact ⟨V7, Q + 1 + 1, e7, L ++ [⟨x.ed, !x.inv⟩], by omega, HB7⟩
            case measure => rw [hml, hm7]; omega
          · have hex : k = 0 ∨ ¬ (k : Int) < 58 + (Z : Int) := by omega
            have y1 := HB.XW.cell 1
            clear hgo hml hln
            rcases hex with h0 | h0
            · have hg1 : ¬ (0 : Int) < (k : Int) := by omega
              clear h0
              have hwl := HB.XW.lt
              have hw0 := HB.hwb
              have R0 : Blk _ w.heap.size 27 #[.slice none 0 0, .slice none 0 0] := (HB.XK _ (.head _)).1
              have R1 : Blk _ (w.heap.size + 1) 30 #[.int .i64 0, .slice none 0 0] := (HB.XK _ (.tail _ (.head _))).1
              have G0 : Blk _ gb 27 #[.slice A n c, .slice B m d] := (HB.XK _ (.tail _ (.tail _ (.head _)))).1
              have XW := HB.XW
              have ne1 : w.heap.size ≠ gb := by omega
              have ne2 : w.heap.size + 1 ≠ gb := by omega
              have ne3 : w.heap.size ≠ wb := by omega
              have ne4 : w.heap.size + 1 ≠ wb := by omega
              have ne5 : w.heap.size + 1 ≠ w.heap.size := by omega
              have ne6 : w.heap.size ≠ w.heap.size + 1 := by omega
              have r0 := R0.cell 0
              have r1 := R0.cell 1
              have q0 := R0.frozen 0
              have q1 := R0.frozen 1
              have r2 := R1.cell 0
              have r3 := R1.cell 1
              have q2 := R1.frozen 0
              have q3 := R1.frozen 1
              have g0 := G0.cell 0
              have g1 := G0.cell 1
              have x0 := XW.cell 0
              have x1 := XW.cell 1
              have r0_ := R0.drew.cell 0
              have r1_ := R0.drew.cell 1
              have q0_ := R0.drew.frozen 0
              have q1_ := R0.drew.frozen 1
              have r2_ := R1.drew.cell 0
              have r3_ := R1.drew.cell 1
              have q2_ := R1.drew.frozen 0
              have q3_ := R1.drew.frozen 1
              have g0_ := G0.drew.cell 0
              have g1_ := G0.drew.cell 1
              have x0_ := XW.drew.cell 0
              have x1_ := XW.drew.cell 1
              have TD := (T0.trans HB.T).drew
              have CD := HB.CR.below (Below.refl _ _).drew
              have OD := HB.O.below (Below.refl _ _).drew
              have HD := own_below HB.ho (Below.refl _ _).drew (Nat.le_refl _)
              have hkk : k ≤ 100 := by omega
              clear HB R0 R1 G0 XW
              go_wp2_with fail
              go_region
              all_goals
                go_wp2
                refine bodyPost_ret (v := .tuple #[.agg #[.slice A n c, .slice B m d], .agg #[.int .i64 s, .slice C k f]]) ?_ rfl ?_
                · simp [results, Tryz.results38, go_sem]
                  go_simp
                · simp only [set_drew]
                  refine ⟨A, n, c, B, m, d, s, C, k, f, rfl, hn, hm, hkk, ⟨g, (OD.past (lo := w.heap.size) (hi := w.heap.size + 2) ?_ hz0).rebase (by omega)⟩, ⟨L, own_rebase (own_past (lo := w.heap.size) (hi := w.heap.size + 2) HD ?_ hz0) (by omega)⟩, CD.tch (lo := w.heap.size) (hi := w.heap.size + 2) ?_ hcb, TD.glue (lo := w.heap.size) (hi := w.heap.size + 2) ?_ (Nat.le_refl _)⟩
                  all_goals
                    repeat (with_reducible refine Tch.sc ?_ (by omega) (by omega) _ _)
                    exact Tch.refl _ _ _
            · by_cases hg1 : (0 : Int) < (k : Int)
              · skip
                have hwl := HB.XW.lt
                have hw0 := HB.hwb
                have R0 : Blk _ w.heap.size 27 #[.slice none 0 0, .slice none 0 0] := (HB.XK _ (.head _)).1
                have R1 : Blk _ (w.heap.size + 1) 30 #[.int .i64 0, .slice none 0 0] := (HB.XK _ (.tail _ (.head _))).1
                have G0 : Blk _ gb 27 #[.slice A n c, .slice B m d] := (HB.XK _ (.tail _ (.tail _ (.head _)))).1
                have XW := HB.XW
                have ne1 : w.heap.size ≠ gb := by omega
                have ne2 : w.heap.size + 1 ≠ gb := by omega
                have ne3 : w.heap.size ≠ wb := by omega
                have ne4 : w.heap.size + 1 ≠ wb := by omega
                have ne5 : w.heap.size + 1 ≠ w.heap.size := by omega
                have ne6 : w.heap.size ≠ w.heap.size + 1 := by omega
                have r0 := R0.cell 0
                have r1 := R0.cell 1
                have q0 := R0.frozen 0
                have q1 := R0.frozen 1
                have r2 := R1.cell 0
                have r3 := R1.cell 1
                have q2 := R1.frozen 0
                have q3 := R1.frozen 1
                have g0 := G0.cell 0
                have g1 := G0.cell 1
                have x0 := XW.cell 0
                have x1 := XW.cell 1
                have r0_ := R0.drew.cell 0
                have r1_ := R0.drew.cell 1
                have q0_ := R0.drew.frozen 0
                have q1_ := R0.drew.frozen 1
                have r2_ := R1.drew.cell 0
                have r3_ := R1.drew.cell 1
                have q2_ := R1.drew.frozen 0
                have q3_ := R1.drew.frozen 1
                have g0_ := G0.drew.cell 0
                have g1_ := G0.drew.cell 1
                have x0_ := XW.drew.cell 0
                have x1_ := XW.drew.cell 1
                have TD := (T0.trans HB.T).drew
                have CD := HB.CR.below (Below.refl _ _).drew
                have OD := HB.O.below (Below.refl _ _).drew
                have HD := own_below HB.ho (Below.refl _ _).drew (Nat.le_refl _)
                have hkk : k ≤ 100 := by omega
                clear HB R0 R1 G0 XW
                go_wp2_with fail
                go_region
                all_goals
                  go_wp2
                  refine bodyPost_ret (v := .tuple #[.agg #[.slice A n c, .slice B m d], .agg #[.int .i64 s, .slice C k f]]) ?_ rfl ?_
                  · simp [results, Tryz.results38, go_sem]
                    go_simp
                  · simp only [set_drew]
                    refine ⟨A, n, c, B, m, d, s, C, k, f, rfl, hn, hm, hkk, ⟨g, (OD.past (lo := w.heap.size) (hi := w.heap.size + 2) ?_ hz0).rebase (by omega)⟩, ⟨L, own_rebase (own_past (lo := w.heap.size) (hi := w.heap.size + 2) HD ?_ hz0) (by omega)⟩, CD.tch (lo := w.heap.size) (hi := w.heap.size + 2) ?_ hcb, TD.glue (lo := w.heap.size) (hi := w.heap.size + 2) ?_ (Nat.le_refl _)⟩
                    all_goals
                      repeat (with_reducible refine Tch.sc ?_ (by omega) (by omega) _ _)
                      exact Tch.refl _ _ _
              · exact absurd (by omega) h0
      · have hd0 : decide (q = 0) = false := by simp [h0]
        have hd1 : decide (q = 1) = false := by simp [h1]
        have hd2 : decide (q = 2) = false := by simp [h2]
        have hwl := HB.XW.lt
        have hw0 := HB.hwb
        have R0 : Blk _ w.heap.size 27 #[.slice none 0 0, .slice none 0 0] := (HB.XK _ (.head _)).1
        have R1 : Blk _ (w.heap.size + 1) 30 #[.int .i64 0, .slice none 0 0] := (HB.XK _ (.tail _ (.head _))).1
        have G0 : Blk _ gb 27 #[.slice A n c, .slice B m d] := (HB.XK _ (.tail _ (.tail _ (.head _)))).1
        have XW := HB.XW
        have ne1 : w.heap.size ≠ gb := by omega
        have ne2 : w.heap.size + 1 ≠ gb := by omega
        have ne3 : w.heap.size ≠ wb := by omega
        have ne4 : w.heap.size + 1 ≠ wb := by omega
        have ne5 : w.heap.size + 1 ≠ w.heap.size := by omega
        have ne6 : w.heap.size ≠ w.heap.size + 1 := by omega
        have r0 := R0.cell 0
        have r1 := R0.cell 1
        have q0 := R0.frozen 0
        have q1 := R0.frozen 1
        have r2 := R1.cell 0
        have r3 := R1.cell 1
        have q2 := R1.frozen 0
        have q3 := R1.frozen 1
        have g0 := G0.cell 0
        have g1 := G0.cell 1
        have x0 := XW.cell 0
        have x1 := XW.cell 1
        have r0_ := R0.drew.cell 0
        have r1_ := R0.drew.cell 1
        have q0_ := R0.drew.frozen 0
        have q1_ := R0.drew.frozen 1
        have r2_ := R1.drew.cell 0
        have r3_ := R1.drew.cell 1
        have q2_ := R1.drew.frozen 0
        have q3_ := R1.drew.frozen 1
        have g0_ := G0.drew.cell 0
        have g1_ := G0.drew.cell 1
        have x0_ := XW.drew.cell 0
        have x1_ := XW.drew.cell 1
        have TD := (T0.trans HB.T).drew
        have CD := HB.CR.below (Below.refl _ _).drew
        have OD := HB.O.below (Below.refl _ _).drew
        have HD := own_below HB.ho (Below.refl _ _).drew (Nat.le_refl _)
        have hkk : k ≤ 100 := by omega
        clear HB R0 R1 G0 XW
        go_wp2_with fail
        go_region
        all_goals
          go_wp2
          refine bodyPost_ret (v := .tuple #[.agg #[.slice A n c, .slice B m d], .agg #[.int .i64 s, .slice C k f]]) ?_ rfl ?_
          · simp [results, Tryz.results38, go_sem]
            go_simp
          · simp only [set_drew]
            refine ⟨A, n, c, B, m, d, s, C, k, f, rfl, hn, hm, hkk, ⟨g, (OD.past (lo := w.heap.size) (hi := w.heap.size + 2) ?_ hz0).rebase (by omega)⟩, ⟨L, own_rebase (own_past (lo := w.heap.size) (hi := w.heap.size + 2) HD ?_ hz0) (by omega)⟩, CD.tch (lo := w.heap.size) (hi := w.heap.size + 2) ?_ hcb, TD.glue (lo := w.heap.size) (hi := w.heap.size + 2) ?_ (Nat.le_refl _)⟩
            all_goals
              repeat (with_reducible refine Tch.sc ?_ (by omega) (by omega) _ _)
              exact Tch.refl _ _ _
end Go.Proofs.YtomkgnamjfiocaaGreatDoor
