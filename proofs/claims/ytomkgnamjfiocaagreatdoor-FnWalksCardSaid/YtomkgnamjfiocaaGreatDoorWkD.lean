/- A step drawn: l3ID, l4Step. -/
import Derived.Test.YtomkgnamjfiocaaGreatDoorBtJ
import Derived.Test.YtomkgnamjfiocaaGreatDoorBaseC
import Derived.Test.YtomkgnamjfiocaaGreatDoorDrawF
namespace Go.Proofs.YtomkgnamjfiocaaGreatDoor
open Go.RowKit Go.ChangeShapes Go.WideShapes Go.ChangeAt Go.Deep
set_option linter.unusedVariables false
set_option maxRecDepth 4000 in
set_option maxHeartbeats 4000000 in
theorem l3ID_any (w : World) {cb base : Nat} (hC : Cur w cb) {A : Option Addr} {n c : Nat} {B : Option Addr} {m d : Nat} {g : G} (O : OwG base w A n c B m d g) (hb : cb + 1 ≤ base) (hm : m ≤ 12) :
    Calls Tryz.prog 122 #[.pointer (some ⟨cb, 0, none⟩), .agg #[.slice A n c, .slice B m d]] w fun e w' => ∃ q : Int, e = .returned (.int .i64 q) ∧ Cur w' cb ∧ Tch cb (cb + 1) w w' := by
  have hcb := hC.lt
  have b0 : Below w.heap.size w (w.alloc (.cells #[.slice A n c, .slice B m d] 27)) := (Below.refl _ _).alloc (Nat.le_refl _) _
  have X0 := Blk.new w 27 #[.slice A n c, .slice B m d]
  have C0 := hC.below b0
  have O0 := O.below b0
  have T0 : Tch cb (cb + 1) w (w.alloc (.cells #[.slice A n c, .slice B m d] 27)) := Tch.of_below b0
  rcases Nat.eq_zero_or_pos m with h0 | h0
  · have hz : ¬ (0 : Int) < (m : Int) := by omega
    clear h0
    have hs : w.heap.size + 1 = (w.alloc (.cells #[.slice A n c, .slice B m d] 27)).heap.size := by simp
    generalize hw0 : w.alloc (.cells #[.slice A n c, .slice B m d] 27) = w0 at *
    generalize hg : w.heap.size = gb at *
    have HW0 := Lib.hid hw0
    have HG := Lib.hid hg
    have HS := Lib.hid hs
    clear hw0 hg b0 hs
    go_enter Tryz.func122, Tryz.ntmps122
    go_wp2_with fail
    rw [HW0.out, HG.out, HS.out]
    refine (pick_lit w0 C0 [0, 1, 50, -1] 4 rfl (by omega) (by omega)).mono ?_
    rintro e w2 ⟨x, hx, rfl, C2, t2⟩
    have T := T0.trans t2
    clear t2 X0
    go_wp2
    go_ret
    exact ⟨_, rfl, C2, T⟩
  · obtain ⟨eb, eo, rfl, -⟩ := edge_at O.grd.gr.re O.grd.gr.lm h0
    generalize hw0 : w.alloc (.cells #[.slice A n c, .slice (some ⟨eb, eo, none⟩) m d] 27) = w0 at *
    generalize hg : w.heap.size = gb at *
    have HW0 := Lib.hid hw0
    have HG := Lib.hid hg
    clear hw0 hg b0
    have hz : (0 : Int) < (m : Int) := by omega
    go_enter Tryz.func122, Tryz.ntmps122
    go_wp2_with fail
    rw [HW0.out, HG.out]
    refine (l1Once_any w0 C0 6 (by omega) (by omega)).mono ?_
    rintro e w1 ⟨b, rfl, C1, t1⟩
    have X1 := X0.tch t1 (by omega)
    have O1 := O0.past t1 hb
    have T1 := T0.trans t1
    clear t1 X0 O0 T0 C0
    cases b
    · have CD : Cur w1.drew cb := C1.below ((Below.refl _ _).drew)
      have GD : Blk w1.drew gb 27 #[.slice A n c, .slice (some ⟨eb, eo, none⟩) m d] := X1.drew
      have OD : OwG base w1.drew A n c (some ⟨eb, eo, none⟩) m d g := O1.below ((Below.refl _ _).drew)
      have TD := T1.drew
      have kd1 : w1.drew.cell? ⟨gb, 1, none⟩ = some (.slice (some ⟨eb, eo, none⟩) m d) := GD.cell 1
      clear C1 X1 O1 T1 hC O
      go_wp2_with fail
      go_region_law (first
        | (go_simp; go_at_call 49; refine (l1Below_all _ CD (m : Int) (by omega)).mono ?_; rintro e w4 ⟨q, rfl, hq0, hq1, C4, t4⟩; obtain ⟨K, rfl⟩ : ∃ K : Nat, q = (K : Int) := ⟨q.toNat, by omega⟩; have hKl : K < m := (by omega); have y1 : w4.cell? ⟨gb, 1, none⟩ = some (.slice (some ⟨eb, eo, none⟩) m d) := (GD.tch t4 (by omega)).cell 1; have O4 := OD.past t4 hb; obtain ⟨eb2, eo2, heq, _, x, hx, z0, z1, z2, z3⟩ := edge_at O4.grd.gr.re O4.grd.gr.lm hKl; obtain ⟨rfl, rfl⟩ : eb = eb2 ∧ eo = eo2 := (by simpa using heq); have hKn : ¬ (K : Int) < 0 := (by omega); have hKd : decide ((K : Int) < 0) = false := (by simp); clear heq hx z1 z2 z3))
      all_goals
        have T := TD.trans t4
        go_wp2
        go_ret
        exact ⟨⟨_, rfl⟩, C4, T⟩
    · go_wp2_with fail
      refine (pick_lit w1 C1 [0, 1, 50, -1] 4 rfl (by omega) (by omega)).mono ?_
      rintro e w2 ⟨x, hx, rfl, C2, t2⟩
      have T := T1.trans t2
      clear t2 X1
      go_wp2
      go_ret
      exact ⟨_, rfl, C2, T⟩
set_option maxRecDepth 4000 in
set_option maxHeartbeats 4000000 in
theorem l4Step_any (w : World) {cb base : Nat} (hC : Cur w cb) {A : Option Addr} {n c : Nat} {B : Option Addr} {m d : Nat} {g : G} (O : OwG base w A n c B m d g) (hb : cb + 1 ≤ base) (hm : m ≤ 12) :
    Calls Tryz.prog 85 #[.pointer (some ⟨cb, 0, none⟩), .agg #[.slice A n c, .slice B m d]] w fun e w' => ∃ x : St, e = .returned (.agg #[.int .i64 x.ed, .bool x.inv]) ∧ Cur w' cb ∧ Tch cb (cb + 1) w w' := by
  have hcb := hC.lt
  have b0 : Below w.heap.size w (w.alloc (.cells #[.slice A n c, .slice B m d] 27)) := (Below.refl _ _).alloc (Nat.le_refl _) _
  have b1 : Below w.heap.size w ((w.alloc (.cells #[.slice A n c, .slice B m d] 27)).alloc (.cells #[.int .i64 0, .bool false] 68)) := b0.alloc b0.size _
  have XS := Blk.new (w.alloc (.cells #[.slice A n c, .slice B m d] 27)) 68 #[.int .i64 0, .bool false]
  rw [show (w.alloc (.cells #[.slice A n c, .slice B m d] 27)).heap.size = w.heap.size + 1 by simp] at XS
  have C0 := hC.below b1
  have O0 := O.below b1
  have T0 : Tch cb (cb + 1) w ((w.alloc (.cells #[.slice A n c, .slice B m d] 27)).alloc (.cells #[.int .i64 0, .bool false] 68)) := Tch.of_below b1
  generalize hw0 : (w.alloc (.cells #[.slice A n c, .slice B m d] 27)).alloc (.cells #[.int .i64 0, .bool false] 68) = w0 at *
  have HW0 := Lib.hid hw0
  clear hw0 b0 b1
  go_enter Tryz.func85, Tryz.ntmps85
  go_wp2_with fail
  rw [HW0.out]
  refine (l3ID_any w0 C0 O0 hb hm).mono ?_
  rintro e w1 ⟨q, rfl, C1, t1⟩
  have X1 := XS.tch t1 (by omega)
  have T1 := T0.trans t1
  clear t1 XS T0 C0 O0
  go_wp2_with fail
  refine (l1Once_any w1 C1 2 (by omega) (by omega)).mono ?_
  rintro e w2 ⟨b, rfl, C2, t2⟩
  have X2 := X1.tch t2 (by omega)
  have T2 := T1.trans t2
  have x0 := X2.cell 0
  have x1 := X2.cell 1
  have v0 := X2.frozen 0
  have v1 := X2.frozen 1
  have CF := C2.tch (((Tch.refl (w.heap.size + 1) (w.heap.size + 2) w2).setCell (p := ⟨w.heap.size + 1, 0, none⟩) (Nat.le_refl _) (Nat.lt_succ_self _) (.int .i64 q)).setCell (p := ⟨w.heap.size + 1, 1, none⟩) (Nat.le_refl _) (Nat.lt_succ_self _) (.bool b)) (by omega)
  have TF := (T2.past (Nat.le_succ _) 0 (.int .i64 q)).past (Nat.le_succ _) 1 (.bool b)
  clear t2 X1 T1 C1 X2 C2 T2
  go_wp2
  refine bodyPost_ret (v := .agg #[.int .i64 q, .bool b]) ?_ rfl ?_
  · simp [results, Tryz.results85, go_sem]
    go_simp
  · exact ⟨⟨q, b⟩, rfl, CF, TF⟩
end Go.Proofs.YtomkgnamjfiocaaGreatDoor
