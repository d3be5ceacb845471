/- A walk drawn: l5Walk. -/
import Derived.Test.YtomkgnamjfiocaaGreatDoorWkD
import Derived.Test.YtomkgnamjfiocaaGreatDoorBaseF
namespace Go.Proofs.YtomkgnamjfiocaaGreatDoor
open Go.RowKit Go.ChangeShapes Go.WideShapes Go.ChangeAt Go.Deep
set_option linter.unusedVariables false
/-- What stands while a walk is drawn: the walk's box, its row of steps, the graph, the cursor; K: the other boxes. -/
structure Wt (w : World) (cb wb : Nat) (K : List (Nat × TypeId × Array Value)) (s : Int) (v : Value) (k : Nat) (L : List St) (A : Option Addr) (n c : Nat) (B : Option Addr) (m d : Nat) (g : G) (bg : Nat) (wr : World) : Prop where
  hcb : cb < w.heap.size
  hwb : w.heap.size ≤ wb
  hbg : cb + 1 ≤ bg
  lL : L.length = k
  XK : ∀ x ∈ K, Blk wr x.1 x.2.1 x.2.2 ∧ x.1 ≠ wb ∧ x.2.1 ≠ 68 ∧ x.1 ≠ cb
  XW : Blk wr wb 30 #[.int .i64 s, v]
  ho : wr.ownsRow w.heap.size 68 2 v k (stcs L)
  O : OwG bg wr A n c B m d g
  CR : Cur wr cb
  T : Tch cb (cb + 1) w wr
theorem own_far_t {w : World} {base g i : Nat} {e t : TypeId} {size n : Nat} {v u : Value} {xs : List Value} {cs : Array Value} (h : w.ownsRow base e size v n xs) (X : Blk w g t cs) (hne : e ≠ t) : (w.setCell ⟨g, i, none⟩ u).ownsRow base e size v n xs := own_set h X hne
theorem OwG.setW {base : Nat} {w : World} {A : Option Addr} {n c : Nat} {B : Option Addr} {m d : Nat} {g : G} {b i : Nat} {t : TypeId} {cs : Array Value} {u : Value} (h : OwG base w A n c B m d g) (X : Blk w b t cs) (h1 : 3 ≠ t) (h2 : 90 ≠ t) : OwG base (w.setCell ⟨b, i, none⟩ u) A n c B m d g :=
  ⟨own_set h.ov X h1, own_set h.oe X h2, h.bn, h.bm⟩
section
variable {w wr w' : World} {cb wb bg k n c m d : Nat} {K : List (Nat × TypeId × Array Value)} {s : Int} {v : Value} {L : List St} {A B : Option Addr} {g : G}
theorem Wt.below (h : Wt w cb wb K s v k L A n c B m d g bg wr) (hb : Below wr.heap.size wr w') : Wt w cb wb K s v k L A n c B m d g bg w' :=
  ⟨h.hcb, h.hwb, h.hbg, h.lL, fun x hx => ⟨(h.XK x hx).1.below hb (h.XK x hx).1.lt, (h.XK x hx).2⟩, h.XW.below hb h.XW.lt, own_below h.ho hb (Nat.le_refl _), h.O.below hb, h.CR.below hb, h.T.below hb⟩
theorem Wt.tch (h : Wt w cb wb K s v k L A n c B m d g bg wr) (t : Tch cb (cb + 1) wr w') (hC : Cur w' cb) : Wt w cb wb K s v k L A n c B m d g bg w' := by
  have h1 := h.hcb
  have h2 := h.hwb
  exact ⟨h.hcb, h.hwb, h.hbg, h.lL, fun x hx => ⟨(h.XK x hx).1.tch t (by have := (h.XK x hx).2.2.2; omega), (h.XK x hx).2⟩, h.XW.tch t (by omega), own_tch h.ho t h1, h.O.past t h.hbg, hC, h.T.trans t⟩
/-- The step is appended to the row, the row laid into its box. -/
theorem Wt.app (h : Wt w cb wb K s v k L A n c B m d g bg wr) (x : St) {v' : Value} (hg : wr.grownBy w' v.ownBlock) (hown : w'.ownsRow w.heap.size 68 2 v' (k + 1) (stcs (L ++ [x]))) : Wt w cb wb K s v' (k + 1) (L ++ [x]) A n c B m d g bg (w'.setCell ⟨wb, 1, none⟩ v') := by
  have h1 := h.hcb
  have h2 := h.hwb
  have XW := blk_grown h.XW h.ho hg (by decide)
  have ov : w'.ownsRow bg 3 1 (.slice A n c) n (g.vs.map iv) := own_same h.O.ov fun q hq => hg.block q (ownBlock_some h.O.ov hq).2 fun hh => own_ne h.O.ov h.ho (by decide) q hq hh.symm
  have oe : w'.ownsRow bg 90 4 (.slice B m d) m (ecs g.es) := own_same h.O.oe fun q hq => hg.block q (ownBlock_some h.O.oe hq).2 fun hh => own_ne h.O.oe h.ho (by decide) q hq hh.symm
  have CR := h.CR.grown h.ho h1 hg
  have T := h.T.grown2 hg (fun g hh => .inr (ownBlock_some h.ho hh).1)
  have O : OwG bg w' A n c B m d g := ⟨ov, oe, h.O.bn, h.O.bm⟩
  refine ⟨h.hcb, h.hwb, h.hbg, by rw [List.length_append, h.lL]; rfl, fun x hx => ?_, XW.set_ 1 v', own_set hown XW (by decide), O.setW XW (by decide) (by decide), CR.tch ((Tch.refl wb (wb + 1) w').setCell (p := ⟨wb, 1, none⟩) (Nat.le_refl _) (Nat.lt_succ_self _) v') (by omega), T.past h2 1 v'⟩
  obtain ⟨a1, a2, a3, a4⟩ := h.XK x hx
  exact ⟨(blk_grown a1 h.ho hg (Ne.symm a3)).far_ a2 _ _, a2, a3, a4⟩
/-- The walk's start is laid anew. -/
theorem Wt.start (h : Wt w cb wb K s v k L A n c B m d g bg wr) (s' : Int) : Wt w cb wb K s' v k L A n c B m d g bg (wr.setCell ⟨wb, 0, none⟩ (.int .i64 s')) := by
  have h1 := h.hcb
  have h2 := h.hwb
  refine ⟨h.hcb, h.hwb, h.hbg, h.lL, fun x hx => ?_, h.XW.set_ 0 _, own_set h.ho h.XW (by decide), h.O.setW h.XW (by decide) (by decide), h.CR.tch ((Tch.refl wb (wb + 1) wr).setCell (p := ⟨wb, 0, none⟩) (Nat.le_refl _) (Nat.lt_succ_self _) _) (by omega), h.T.past h2 0 _⟩
  obtain ⟨a1, a2, a3, a4⟩ := h.XK x hx
  exact ⟨a1.far_ a2 _ _, a2, a3, a4⟩
end
theorem srd_of {w : World} {base : Nat} {A : Option Addr} {n c : Nat} {l : List St} (h : w.ownsRow base 68 2 (.slice A n c) n (stcs l)) (hn : n ≤ 2000000) : SRd w A n l :=
  ⟨by have := h.1; rw [stcs_len] at this; omega, Reads.of_own h, hn⟩
theorem srd_lit (w : World) (x : St) : SRd (w.alloc (.cells #[.int .i64 x.ed, .bool x.inv] 68)) (some ⟨w.heap.size, 0, none⟩) 1 [x] := by
  have X := Blk.new w 68 (stcs [x]).toArray
  refine ⟨rfl, row_reads rfl X.lt fun j u hu => ?_, by omega⟩
  exact (X.cell j).trans (by rw [List.getElem?_toArray]; exact hu)
set_option maxRecDepth 4000 in
set_option maxHeartbeats 16000000 in
theorem l5Walk_any (w : World) {cb base : Nat} (hC : Cur w cb) {A : Option Addr} {n c : Nat} {B : Option Addr} {m d : Nat} {g : G} (O : OwG base w A n c B m d g) (hb : cb + 1 ≤ base) (hn : n ≤ 5) (hm : m ≤ 12) :
    Calls Tryz.prog 51 #[.pointer (some ⟨cb, 0, none⟩), .agg #[.slice A n c, .slice B m d]] w fun e w' => ∃ (s : Int) (C : Option Addr) (k f : Nat), e = .returned (.agg #[.int .i64 s, .slice C k f]) ∧ k ≤ 6 ∧ (∃ L : List St, w'.ownsRow w.heap.size 68 2 (.slice C k f) k (stcs L)) ∧ Cur w' cb ∧ Tch cb (cb + 1) w w' := by
  have hcb := hC.lt
  have b0 : Below w.heap.size w (w.alloc (.cells #[.slice A n c, .slice B m d] 27)) := (Below.refl _ _).alloc (Nat.le_refl _) _
  have b1 : Below w.heap.size w ((w.alloc (.cells #[.slice A n c, .slice B m d] 27)).alloc (.cells #[.int .i64 0, .slice none 0 0] 30)) := b0.alloc b0.size _
  have X0 := (Blk.new w 27 #[.slice A n c, .slice B m d]).alloc (.cells #[.int .i64 0, .slice none 0 0] 30)
  have XR := Blk.new (w.alloc (.cells #[.slice A n c, .slice B m d] 27)) 30 #[.int .i64 0, .slice none 0 0]
  rw [show (w.alloc (.cells #[.slice A n c, .slice B m d] 27)).heap.size = w.heap.size + 1 by simp] at XR
  have C0 := hC.below b1
  have O0 := O.below b1
  have T0 : Tch cb (cb + 1) w ((w.alloc (.cells #[.slice A n c, .slice B m d] 27)).alloc (.cells #[.int .i64 0, .slice none 0 0] 30)) := Tch.of_below b1
  have hwm : IntKind.i64.wrap (n : Int) = (n : Int) := IntWalk.i64_in _ (by omega)
  generalize hw0 : (w.alloc (.cells #[.slice A n c, .slice B m d] 27)).alloc (.cells #[.int .i64 0, .slice none 0 0] 30) = w0 at *
  have HW0 := Lib.hid hw0
  clear hw0 b0 b1
  go_enter Tryz.func51, Tryz.ntmps51
  go_wp2_with fail
  all_goals
    rw [HW0.out]
    refine (l1Below_all w0 C0 _ (by omega)).mono ?_
    rintro e w1 ⟨s, rfl, hs0, hs1, C1, t1⟩
    have X1 := X0.tch t1 (by omega)
    have R1 := XR.tch t1 (by omega)
    have O1 := O0.past t1 hb
    have T1 := T0.trans t1
    have bW : Below w1.heap.size w1 (w1.alloc (.cells #[.int .i64 s, .slice none 0 0] 30)) := (Below.refl _ _).alloc (Nat.le_refl _) _
    have XW := Blk.new w1 30 #[.int .i64 s, .slice none 0 0]
    have hwb : w.heap.size ≤ w1.heap.size := T1.size
    have hr1 := R1.lt
    have HB : Wt w cb w1.heap.size [(w.heap.size, 27, #[.slice A n c, .slice B m d]), (w.heap.size + 1, 30, #[.int .i64 0, .slice none 0 0])] s (.slice none 0 0) 0 [] A n c B m d g base (w1.alloc (.cells #[.int .i64 s, .slice none 0 0] 30)) := by
      refine ⟨hcb, hwb, hb, rfl, ?_, XW, World.ownsRow_nil _ _ _ _, O1.below bW, C1.below bW, T1.below bW⟩
      intro x hx
      rcases List.mem_cons.1 hx with rfl | hx
      · exact ⟨X1.below bW X1.lt, Nat.ne_of_lt X1.lt, (show (27 : TypeId) ≠ 68 from by decide), Nat.ne_of_gt hcb⟩
      · rcases List.mem_cons.1 hx with rfl | hx
        · exact ⟨R1.below bW R1.lt, Nat.ne_of_lt R1.lt, (show (30 : TypeId) ≠ 68 from by decide), Nat.ne_of_gt (Nat.lt_succ_of_lt hcb)⟩
        · cases hx
    generalize hw2 : w1.alloc (.cells #[.int .i64 s, .slice none 0 0] 30) = w2 at *
    generalize hwbb : w1.heap.size = wb at *
    have HW2 := Lib.hid hw2
    have HWB := Lib.hid hwbb
    clear hw2 hwbb bW XW t1 X0 XR O0 T0 C0 X1 R1 O1 T1 C1 hwb
    go_wp2_with fail
    rw [HW2.out, HWB.out]
    refine (l1Below_all w2 HB.CR 7 (by omega)).mono ?_
    rintro e w3 ⟨q, rfl, hq0, hq1, C3, t3⟩
    obtain ⟨p, rfl, hp⟩ : ∃ p : Nat, q = (p : Int) ∧ p ≤ 6 := ⟨q.toNat, by omega, by omega⟩
    replace HB := HB.tch t3 C3
    have hlz : w.heap.size + 1 < wb := hr1
    clear t3 C3 HW2 HWB hr1
    go_wp2
    go_loopw [6, 7] (fun at_ i wr => ∃ (p : Nat) (a : Int) (v : Value) (k : Nat) (L : List St), i = .int .i64 p ∧ at_ = .int .i64 a ∧ k + p ≤ 6 ∧ Wt w cb wb [(w.heap.size, 27, #[.slice A n c, .slice B m d]), (w.heap.size + 1, 30, #[.int .i64 0, .slice none 0 0])] s v k L A n c B m d g base wr) (fun _ i _ => (intOf i).toNat)
    case atStart => exact ⟨p, _, _, 0, [], rfl, rfl, by omega, HB⟩
    case round =>
      clear HB hp hq0 hq1 hs0 hs1 w1 w2 w3
      obtain ⟨p, a, v, k, L, rfl, rfl, hp, HB⟩ := hrel
      obtain ⟨V3, e3, rfl, _⟩ := own_form HB.ho
      have X0 : Blk wr w.heap.size 27 #[.slice A n c, .slice B m d] := (HB.XK _ (.head _)).1
      have XR : Blk wr (w.heap.size + 1) 30 #[.int .i64 0, .slice none 0 0] := (HB.XK _ (.tail _ (.head _))).1
      rcases Nat.eq_zero_or_pos p with rfl | hp0
      · have hpos : ¬ (0 : Int) < ((0 : Nat) : Int) := by omega
        have hkm : k ≤ 6 := by omega
        have b0 := HB.XW.cell 0
        have b1 := HB.XW.cell 1
        have r0 := XR.cell 0
        have r1 := XR.cell 1
        have q0 := XR.frozen 0
        have q1 := XR.frozen 1
        have OF := own_set (i := 1) (u := .slice V3 k e3) (own_set (i := 0) (u := .int .i64 s) HB.ho XR (by decide)) (XR.set_ 0 (.int .i64 s)) (by decide)
        have CF := HB.CR.tch (((Tch.refl (w.heap.size + 1) (w.heap.size + 2) wr).setCell (p := ⟨w.heap.size + 1, 0, none⟩) (Nat.le_refl _) (Nat.lt_succ_self _) (.int .i64 s)).setCell (p := ⟨w.heap.size + 1, 1, none⟩) (Nat.le_refl _) (Nat.lt_succ_self _) (.slice V3 k e3)) (by omega)
        have TF := (HB.T.past (Nat.le_succ _) 0 (.int .i64 s)).past (Nat.le_succ _) 1 (.slice V3 k e3)
        clear HB X0 XR
        go_wp2
        refine bodyPost_ret (v := .agg #[.int .i64 s, .slice V3 k e3]) ?_ rfl ?_
        · simp [results, Tryz.results51, go_sem]
          go_simp
        · exact ⟨s, V3, k, e3, rfl, hkm, ⟨L, OF⟩, CF, TF⟩
      · obtain ⟨r, rfl⟩ : ∃ r, p = r + 1 := ⟨p - 1, by omega⟩
        have hpos : (0 : Int) < ((r + 1 : Nat) : Int) := by omega
        have hw1 : IntKind.i64.wrap (((r + 1 : Nat) : Int) - 1) = (r : Int) := by rw [IntKind.wrap_i64]; omega
        have x0 := X0.cell 0
        have x1 := X0.cell 1
        go_wp2_with fail
        refine (l4From_is wr (c := c) (d := d) HB.O.grd hm a).mono ?_
        rintro e w4 ⟨A2, n2, c2, rfl, J4, b4⟩
        have hle4 : w.heap.size ≤ wr.heap.size := HB.T.size
        replace HB := HB.below b4
        have ho4 := J4.own.row
        have hl4 := ho4.1
        have hn4 := J4.bd
        clear x0 x1 b4 J4 X0 XR
        rcases Nat.eq_zero_or_pos n2 with hz2 | hz2
        · have hz : (n2 : Int) = 0 := by omega
          have hkm : k ≤ 6 := by omega
          clear hz2
          have XR : Blk w4 (w.heap.size + 1) 30 #[.int .i64 0, .slice none 0 0] := (HB.XK _ (.tail _ (.head _))).1
          have b0 := HB.XW.cell 0
          have b1 := HB.XW.cell 1
          have r0 := XR.cell 0
          have r1 := XR.cell 1
          have q0 := XR.frozen 0
          have q1 := XR.frozen 1
          have OF := own_set (i := 1) (u := .slice V3 k e3) (own_set (i := 0) (u := .int .i64 s) HB.ho XR (by decide)) (XR.set_ 0 (.int .i64 s)) (by decide)
          have CF := HB.CR.tch (((Tch.refl (w.heap.size + 1) (w.heap.size + 2) w4).setCell (p := ⟨w.heap.size + 1, 0, none⟩) (Nat.le_refl _) (Nat.lt_succ_self _) (.int .i64 s)).setCell (p := ⟨w.heap.size + 1, 1, none⟩) (Nat.le_refl _) (Nat.lt_succ_self _) (.slice V3 k e3)) (by omega)
          have TF := (HB.T.past (Nat.le_succ _) 0 (.int .i64 s)).past (Nat.le_succ _) 1 (.slice V3 k e3)
          clear HB XR ho4 hl4
          go_wp2
          refine bodyPost_ret (v := .agg #[.int .i64 s, .slice V3 k e3]) ?_ rfl ?_
          · simp [results, Tryz.results51, go_sem]
            go_simp
          · exact ⟨s, V3, k, e3, rfl, hkm, ⟨L, OF⟩, CF, TF⟩
        · have hz : ¬ (n2 : Int) = 0 := by omega
          have hlS : (accSt g.es a m).length = n2 := by rw [stcs_len] at hl4; omega
          generalize accSt g.es a m = SL at *
          clear hl4
          go_wp2_with fail
          refine (l1Below_all w4 HB.CR (n2 : Int) (by omega)).mono ?_
          rintro e w5 ⟨q, rfl, hq0, hq1, C5, t5⟩
          obtain ⟨Q, rfl⟩ : ∃ Q : Nat, q = (Q : Int) := ⟨q.toNat, by omega⟩
          have hcw : cb + 1 ≤ wr.heap.size := by have := HB.hcb; omega
          replace HB := HB.tch t5 C5
          have ho5 := own_past ho4 t5 hcw
          have hQl : Q < n2 := by omega
          have hKn : ¬ (Q : Int) < 0 := by omega
          have hKd : decide ((Q : Int) < 0) = false := by simp
          obtain ⟨sb, so, rfl, _, x, hx, z0, z1⟩ := step_at (Reads.of_own ho5) hlS hQl
          clear t5 C5 ho4 ho5 hx hlS
          have bD : Below w5.heap.size w5 (w5.alloc (.cells #[.int .i64 x.ed, .bool x.inv] 68)) := (Below.refl _ _).alloc (Nat.le_refl _) _
          have XD := Blk.new w5 68 #[.int .i64 x.ed, .bool x.inv]
          have hov := HB.ho
          have hwl := HB.XW.lt
          replace HB := HB.below bD
          have bA : Below (World.heap (w5.alloc (.cells #[.int .i64 x.ed, .bool x.inv] 68))).size (w5.alloc (.cells #[.int .i64 x.ed, .bool x.inv] 68)) ((w5.alloc (.cells #[.int .i64 x.ed, .bool x.inv] 68)).alloc (.cells #[.int .i64 x.ed, .bool x.inv] 68)) := (Below.refl _ _).alloc (Nat.le_refl _) _
          have y1 := HB.XW.cell 1
          have HBa := HB.below bA
          have XDa := XD.below bA XD.lt
          have rdn := (srd_lit (w5.alloc (.cells #[.int .i64 x.ed, .bool x.inv] 68)) x).rd
          rw [show (World.heap (w5.alloc (.cells #[.int .i64 x.ed, .bool x.inv] 68))).size = w5.heap.size + 1 from by simp] at rdn
          have q3 : Small (k + 1) := small_of (by omega)
          have hle : w.heap.size ≤ (World.heap ((w5.alloc (.cells #[.int .i64 x.ed, .bool x.inv] 68)).alloc (.cells #[.int .i64 x.ed, .bool x.inv] 68))).size := HBa.T.size
          clear bA bD HB XD
          go_wp2_with (at_builtin; refine ap_plain _ app_step (by decide) w.heap.size (.tmp 40) (.tmp 42) rfl rfl _ _ _ rfl HBa.ho _ _ 1 1 _ rfl rdn (stcs_one _) q3 hle ?_; intro v7 w7 hown7 hg7 hat7; clear hat7; obtain ⟨V7, e7, rfl, _⟩ := own_form hown7; have XW7 := blk_grown HBa.XW HBa.ho hg7 (by decide); have b7 := XW7.cell 1; have bf7 := XW7.frozen 1; have XD7 := (XDa.grown hg7 (fun hq => by have := (ownBlock_some hov hq.symm).2; omega)).far_ (Nat.ne_of_gt hwl) 1 (.slice V7 (k + 1) e7); have m0 := XD7.cell 0; have m1 := XD7.cell 1; have HB7 := HBa.app x (v' := .slice V7 (k + 1) e7) hg7 (by rw [stcs_append]; exact hown7); have X7 : Blk _ w.heap.size 27 #[.slice A n c, .slice B m d] := (HB7.XK _ (.head _)).1; have n0 := X7.cell 0; have n1 := X7.cell 1)
          refine (specStepTo_is _ (c := c) (d := d) HB7.O.grd x).mono ?_
          rintro e w9 ⟨rfl, b9⟩
          have HB9 := HB7.below b9
          clear b9 n0 n1 m0 m1 XD7 X7 HB7 HBa XDa hg7 hown7 b7 bf7 XW7
          go_wp2
          go_roundw
          case rel => exact ⟨r, _, _, k + 1, L ++ [x], by go_num, rfl, by omega, HB9⟩
          case measure => simp [intOf] <;> omega
end Go.Proofs.YtomkgnamjfiocaaGreatDoor
