/- The draws of FnBatches. -/
import Derived.Test.YtomkgnamjfiocaaGreatDoorDrwL
import Derived.Test.YtomkgnamjfiocaaGreatDoorBtJ
import Derived.BigRegion
namespace Go.Proofs.YtomkgnamjfiocaaGreatDoor
open Go.RowKit Go.ChangeShapes Go.WideShapes Go.ChangeAt Go.Deep
set_option linter.unusedVariables false
theorem gis_grd {w : World} {lo hi : Nat} {A : Option Addr} {n c : Nat} {B : Option Addr} {m d : Nat} {vs : List Int} {es : List E} (J : GIs w lo hi A n c B m d (vs.map iv) (ecs es)) (hn : n ≤ 5) (hm : m ≤ 12) : GRd w A n B m ⟨vs, es⟩ := ⟨GIs.greads (g := ⟨vs, es⟩) J, by omega, by omega⟩
theorem gis_cap {w : World} {lo hi : Nat} {A : Option Addr} {n c : Nat} {B : Option Addr} {m d : Nat} {xs ys : List Value} (J : GIs w lo hi A n c B m d xs ys) : m ≤ d := by
  obtain ⟨B2, d2, hv, h, _⟩ := own_form J.ov.own.row
  injection hv with _ _ h3
  omega
theorem Tch.sc {lo hi b : Nat} {w w' : World} (h : Tch lo hi w w') (h1 : lo ≤ b) (h2 : b < hi) (i : Nat) (u : Value) : Tch lo hi w (w'.setCell ⟨b, i, none⟩ u) := h.setCell (p := ⟨b, i, none⟩) h1 h2 u
theorem set_drew (w : World) (p : Addr) (u : Value) : (w.setCell p u).drew = w.drew.setCell p u := by
  first | rfl | simp
theorem crd_far {w w' : World} {lo hi base : Nat} {C : Option Addr} {k f : Nat} {L : List Cg} (o : w.ownsRow base 92 5 (.slice C k f) k (cgcs L)) (t : Tch lo hi w w') (hb : hi ≤ base) (hk : k ≤ 2000000) : CRd w' C k L :=
  crd_own (base := base) (own_same o fun q hq => t.block q (ownBlock_some o hq).2 (.inr (by have := (ownBlock_some o hq).1; omega))) hk
set_option maxRecDepth 4000 in
set_option maxHeartbeats 4000000 in
theorem l6Pair_any (w : World) {A0 : Option Addr} {n0 c0 : Nat} (h : CRaw w A0 n0) :
    Calls Tryz.prog 61 #[.slice A0 n0 c0] w fun e w' => ∃ (A : Option Addr) (n c : Nat) (B : Option Addr) (m d : Nat) (C : Option Addr) (k f : Nat), e = .returned (.tuple #[.agg #[.slice A n c, .slice B m d], .agg #[.slice C k f]]) ∧ m ≤ d ∧ (∃ (vs : List Int) (es : List E) (lo hi : Nat), w.heap.size ≤ lo ∧ GIs w' lo hi A n c B m d (vs.map iv) (ecs es)) ∧ (∃ L, w'.ownsRow w.heap.size 92 5 (.slice C k f) k (cgcs L)) ∧ k ≤ 8 ∧ n ≤ 5 ∧ m ≤ 12 ∧ Below w.heap.size w w' := by
  have hBa : Below w.heap.size w (w.alloc (.cells #[.slice none 0 0, .slice none 0 0] 27)) := (Below.refl _ _).alloc (Nat.le_refl _) _
  have hB0 : Below w.heap.size w ((w.alloc (.cells #[.slice none 0 0, .slice none 0 0] 27)).alloc (.cells #[.slice none 0 0] 47)) := hBa.alloc hBa.size _
  have XR := (Blk.new w 27 #[.slice none 0 0, .slice none 0 0]).alloc (.cells #[.slice none 0 0] 47)
  have XQ := Blk.new (w.alloc (.cells #[.slice none 0 0, .slice none 0 0] 27)) 47 #[.slice none 0 0]
  have hsz : (w.alloc (.cells #[.slice none 0 0, .slice none 0 0] 27)).heap.size = w.heap.size + 1 := by simp
  rw [hsz] at XQ
  have h0 := h.up hB0
  generalize hw0 : (w.alloc (.cells #[.slice none 0 0, .slice none 0 0] 27)).alloc (.cells #[.slice none 0 0] 47) = w0 at *
  have HW0 := Lib.hid hw0
  clear hw0 hsz hBa
  go_enter Tryz.func61, Tryz.ntmps61
  go_wp2_with fail
  try rw [HW0.out]
  refine (new_cur w0 h0).mono ?_
  rintro e w1 ⟨cb, rfl, hlo, C1, b1⟩
  have hx0 := XQ.lt
  have X1 := XR.below b1 XR.lt
  have Q1 := XQ.below b1 XQ.lt
  have B1 := below_then hB0 b1
  have hcb := C1.lt
  clear XR XQ hB0 b1 h0 h
  go_wp2_with fail
  refine (l3Any_any w1 C1).mono ?_
  rintro e w2 ⟨A, n, c, B, m, d, rfl, hn, hm, ⟨vs, es, J⟩, C2, t2⟩
  have X2 := X1.tch t2 (by omega)
  have Q2 := Q1.tch t2 (by omega)
  have B2 := below_tch B1 t2 (by omega)
  have hz2 := t2.size
  have hmd := gis_cap J
  clear t2 X1 Q1 B1 C1
  have bG : Below w2.heap.size w2 (w2.alloc (.cells #[.slice A n c, .slice B m d] 27)) := (Below.refl _ _).alloc (Nat.le_refl _) _
  have XG := Blk.new w2 27 #[.slice A n c, .slice B m d]
  have X3 := X2.below bG X2.lt
  have Q3 := Q2.below bG Q2.lt
  have B3 := below_then B2 bG
  have J3 := J.below bG
  have C3 := C2.below bG
  have hgl : w.heap.size + 1 < w2.heap.size := Q2.lt
  have hgc : cb < w2.heap.size := C2.lt
  have hrl : w.heap.size + 2 ≤ w1.heap.size := by omega
  have hcl : cb + 1 ≤ w1.heap.size := hcb
  generalize hw3 : w2.alloc (.cells #[.slice A n c, .slice B m d] 27) = w3 at *
  generalize hgg : w2.heap.size = g at *
  have HW3 := Lib.hid hw3
  have HG := Lib.hid hgg
  clear hw3 hgg bG X2 Q2 B2 J C2 hz2
  have bL : Below w3.heap.size w3 (w3.alloc (.cells #[.int .i64 3, .int .i64 6, .int .i64 8] 3)) := (Below.refl _ _).alloc (Nat.le_refl _) _
  have XL := Blk.new w3 3 #[.int .i64 3, .int .i64 6, .int .i64 8]
  have XG4 := XG.below bL XG.lt
  have X4 := X3.below bL X3.lt
  have Q4 := Q3.below bL Q3.lt
  have B4 := below_then B3 bL
  have J4 := J3.below bL
  have C4 := C3.below bL
  have hlz : g < w3.heap.size := XG.lt
  generalize hw4 : w3.alloc (.cells #[.int .i64 3, .int .i64 6, .int .i64 8] 3) = w4 at *
  generalize hll : w3.heap.size = lb at *
  have HW4 := Lib.hid hw4
  have HL4 := Lib.hid hll
  have G3 : Blk w3.drew g 27 #[.slice A n c, .slice B m d] := XG.drew
  have e0 : w3.drew.cell? ⟨g, 0, none⟩ = some (.slice A n c) := G3.cell 0
  have e1 : w3.drew.cell? ⟨g, 1, none⟩ = some (.slice B m d) := G3.cell 1
  clear hw4 hll bL XG X3 Q3 B3 J3 G3
  have CD : Cur w4.drew cb := C4.below ((Below.refl _ _).drew)
  have GD : Blk w4.drew g 27 #[.slice A n c, .slice B m d] := XG4.drew
  have LD : Blk w4.drew lb 3 #[.int .i64 3, .int .i64 6, .int .i64 8] := XL.drew
  have RD : Blk w4.drew w.heap.size 27 #[.slice none 0 0, .slice none 0 0] := X4.drew
  have QD : Blk w4.drew (w.heap.size + 1) 47 #[.slice none 0 0] := Q4.drew
  have JD : GIs w4.drew w1.heap.size g A n c B m d (vs.map iv) (ecs es) := J4.below ((Below.refl _ _).drew)
  have BD : Below w.heap.size w w4.drew := B4.drew
  have kd0 : w4.drew.cell? ⟨g, 0, none⟩ = some (.slice A n c) := GD.cell 0
  have kd1 : w4.drew.cell? ⟨g, 1, none⟩ = some (.slice B m d) := GD.cell 1
  have ne1 : w.heap.size ≠ g := by omega
  have ne2 : w.heap.size + 1 ≠ g := by omega
  have ne3 : w.heap.size + 1 ≠ w.heap.size := by omega
  have ne4 : w.heap.size ≠ w.heap.size + 1 := by omega
  have f0 : (w3.alloc (.cells #[.int .i64 3, .int .i64 6, .int .i64 8] 3)).drew.cell? ⟨g, 0, none⟩ = some (.slice A n c) := by rw [HW4.out]; exact kd0
  have f1 : (w3.alloc (.cells #[.int .i64 3, .int .i64 6, .int .i64 8] 3)).drew.cell? ⟨g, 1, none⟩ = some (.slice B m d) := by rw [HW4.out]; exact kd1
  clear C4 XG4 X4 Q4 J4 B4 kd0 kd1 C3
  go_wp2_with fail
  rw [HW3.out, HG.out]
  go_region_held3 (fun w' => w'.cell? ⟨g, 0, none⟩ = some (.slice A n c) ∧ w'.cell? ⟨g, 1, none⟩ = some (.slice B m d)) (first | with_reducible exact ⟨e0, e1⟩ | with_reducible exact ⟨f0, f1⟩ | with_reducible exact ⟨y0, y1⟩ | with_reducible exact ⟨v0, v1⟩ | (simp only [v0, v1, World.cell?_setCell_far, ne1, ne2, ne_eq, not_false_eq_true, and_self])) (first
    | (go_simp; go_at_call 76; refine (l6Batch_any _ C4 (gis_grd J4 hn hm) hn hm M (by omega)).mono ?_; rintro e w6 ⟨C, k, f, rfl, hk, ⟨L, o5⟩, C6, t6⟩; have G6 := G4.tch t6 (by omega); have v0 : w6.cell? ⟨g, 0, none⟩ = some (.slice A n c) := G6.cell 0; have v1 : w6.cell? ⟨g, 1, none⟩ = some (.slice B m d) := G6.cell 1; have R6 := R4.tch t6 (by omega); have Q6 := Q4.tch t6 (by omega); have r0 := R6.cell 0; have r1 := R6.cell 1; have q0 := R6.frozen 0; have q1 := R6.frozen 1; have r2 := Q6.cell 0; have q2 := Q6.frozen 0; have J6 := J4.tch t6 (.inr hcl); have B6 := below_tch B4 t6 (by omega))
    | (go_simp; go_at_call 105; rw [HW4.out, HL4.out]; refine (l1PickInt_any w4.drew CD (xs := [3, 6, 8]) (n := 3) rfl (by omega) (by omega) (lit_cells LD) (by omega)).mono ?_; rintro e w5 ⟨x, hx, rfl, C4, t4⟩; obtain ⟨M, rfl, hM⟩ : ∃ M : Nat, x = (M : Int) ∧ M ≤ 8 := ⟨x.toNat, by simp at hx; omega, by simp at hx; omega⟩; have G4 := GD.tch t4 (by omega); have y0 : w5.cell? ⟨g, 0, none⟩ = some (.slice A n c) := G4.cell 0; have y1 : w5.cell? ⟨g, 1, none⟩ = some (.slice B m d) := G4.cell 1; have R4 := RD.tch t4 (by omega); have Q4 := QD.tch t4 (by omega); have J4 := JD.tch t4 (.inr hcl); have B4 := below_tch BD t4 (by omega)))
  all_goals
    go_wp2
    refine bodyPost_ret (v := .tuple #[.agg #[.slice A n c, .slice B m d], .agg #[.slice C k f]]) ?_ rfl ?_
    · simp [results, Tryz.results61, go_sem]
      go_simp
    · have hq5 := Q4.lt
      refine ⟨A, n, c, B, m, d, C, k, f, rfl, hmd, ⟨vs, es, _, _, by omega, J6.tch (lo := w.heap.size) (hi := w.heap.size + 2) ?_ (.inr hrl)⟩, ⟨L, own_rebase (own_past (lo := w.heap.size) (hi := w.heap.size + 2) o5 ?_ (by omega)) (by omega)⟩, by omega, hn, hm, below_tch (lo := w.heap.size) (hi := w.heap.size + 2) B6 ?_ (Nat.le_refl _)⟩
      all_goals
        repeat (with_reducible refine Tch.sc ?_ (by omega) (by omega) _ _)
        exact Tch.refl _ _ _
set_option maxRecDepth 4000 in
set_option maxHeartbeats 4000000 in
theorem drawApply_any (w : World) {A0 : Option Addr} {n0 c0 : Nat} (h : CRaw w A0 n0) :
    Calls Tryz.prog 24 #[.slice A0 n0 c0] w fun e w' => ∃ (A : Option Addr) (n c : Nat) (B : Option Addr) (m d : Nat) (C : Option Addr) (k f : Nat), e = .returned (.tuple #[.agg #[.slice A n c, .slice B m d], .agg #[.slice C k f]]) ∧ m ≤ d ∧ (∃ vs es, GRd w' A n B m ⟨vs, es⟩) ∧ (∃ L, CRd w' C k L) ∧ k ≤ 8 ∧ n ≤ 5 ∧ m ≤ 12 ∧ Below w.heap.size w w' := by
  have hBa : Below w.heap.size w (w.alloc (.cells #[.slice none 0 0, .slice none 0 0] 27)) := (Below.refl _ _).alloc (Nat.le_refl _) _
  have hB0 : Below w.heap.size w ((w.alloc (.cells #[.slice none 0 0, .slice none 0 0] 27)).alloc (.cells #[.slice none 0 0] 47)) := hBa.alloc hBa.size _
  have XR := (Blk.new w 27 #[.slice none 0 0, .slice none 0 0]).alloc (.cells #[.slice none 0 0] 47)
  have XQ := Blk.new (w.alloc (.cells #[.slice none 0 0, .slice none 0 0] 27)) 47 #[.slice none 0 0]
  have hsz : (w.alloc (.cells #[.slice none 0 0, .slice none 0 0] 27)).heap.size = w.heap.size + 1 := by simp
  rw [hsz] at XQ
  have h0 := h.up hB0
  generalize hw0 : (w.alloc (.cells #[.slice none 0 0, .slice none 0 0] 27)).alloc (.cells #[.slice none 0 0] 47) = w0 at *
  have HW0 := Lib.hid hw0
  clear hw0 hsz hBa
  go_enter Tryz.func24, Tryz.ntmps24
  go_wp2_with fail
  try rw [HW0.out]
  refine (l6Pair_any w0 h0).mono ?_
  rintro e w1 ⟨A, n, c, B, m, d, C, k, f, rfl, hmd, ⟨vs, es, lo, hi, hlo, J⟩, ⟨L, JC⟩, hk, hn, hm, b1⟩
  have hx0 := XQ.lt
  have X1 := XR.below b1 XR.lt
  have Q1 := XQ.below b1 XQ.lt
  have B1 := below_then hB0 b1
  have bG : Below w1.heap.size w1 (w1.alloc (.cells #[.slice A n c, .slice B m d] 27)) := (Below.refl _ _).alloc (Nat.le_refl _) _
  have bH : Below w1.heap.size w1 ((w1.alloc (.cells #[.slice A n c, .slice B m d] 27)).alloc (.cells #[.slice C k f] 47)) := bG.alloc bG.size _
  have XG := (Blk.new w1 27 #[.slice A n c, .slice B m d]).alloc (.cells #[.slice C k f] 47)
  have XH := Blk.new (w1.alloc (.cells #[.slice A n c, .slice B m d] 27)) 47 #[.slice C k f]
  rw [show (w1.alloc (.cells #[.slice A n c, .slice B m d] 27)).heap.size = w1.heap.size + 1 by simp] at XH
  have X2 := X1.below bH X1.lt
  have Q2 := Q1.below bH Q1.lt
  have B2 := (below_then B1 bH).drew
  have J2 := (J.below bH).below ((Below.refl _ _).drew)
  have JC2 := own_below (own_below JC bH (Nat.le_refl _)) ((Below.refl _ _).drew) (Nat.le_refl _)
  have hl1 := X1.lt
  have hl2 := Q1.lt
  generalize hw2 : (w1.alloc (.cells #[.slice A n c, .slice B m d] 27)).alloc (.cells #[.slice C k f] 47) = w2 at *
  have HW2 := Lib.hid hw2
  have r0 := X2.cell 0
  have r1 := X2.cell 1
  have q0 := X2.frozen 0
  have q1 := X2.frozen 1
  have r2 := Q2.cell 0
  have q2 := Q2.frozen 0
  have g0 := XG.cell 0
  have g1 := XG.cell 1
  have g2 := XH.cell 0
  have ne1 : w.heap.size ≠ w1.heap.size := by omega
  have ne2 : w.heap.size + 1 ≠ w1.heap.size := by omega
  have ne3 : w.heap.size ≠ w1.heap.size + 1 := by omega
  have ne4 : w.heap.size + 1 ≠ w1.heap.size + 1 := by omega
  have ne5 : w.heap.size + 1 ≠ w.heap.size := by omega
  have ne6 : w.heap.size ≠ w.heap.size + 1 := by omega
  have XD0 := X2.drew
  have QD0 := Q2.drew
  have d0 := XD0.cell 0
  have d1 := XD0.cell 1
  have d2 := QD0.cell 0
  have c0_ := XD0.frozen 0
  have c1_ := XD0.frozen 1
  have c2_ := QD0.frozen 0
  have y0 := XG.drew.cell 0
  have y1 := XG.drew.cell 1
  have y2 := XH.drew.cell 0
  clear hw2 bG bH XR XQ hB0 b1 h0 h X1 Q1 J JC B1
  go_wp2_with fail
  rw [HW2.out]
  go_region
  all_goals
    go_wp2
    refine bodyPost_ret (v := .tuple #[.agg #[.slice A n c, .slice B m d], .agg #[.slice C k f]]) ?_ rfl ?_
    · simp [results, Tryz.results24, go_sem]
      go_simp
    · refine ⟨A, n, c, B, m, d, C, k, f, rfl, hmd, ⟨vs, es, gis_grd (J2.tch (lo := w.heap.size) (hi := w.heap.size + 2) ?_ (.inr (by omega))) hn hm⟩, ⟨L, crd_far (lo := w.heap.size) (hi := w.heap.size + 2) JC2 ?_ (by omega) (by omega)⟩, hk, hn, hm, below_tch (lo := w.heap.size) (hi := w.heap.size + 2) B2 ?_ (Nat.le_refl _)⟩
      all_goals
        simp only [set_drew]
        repeat (with_reducible refine Tch.sc ?_ (by omega) (by omega) _ _)
        exact Tch.refl _ _ _
end Go.Proofs.YtomkgnamjfiocaaGreatDoor
