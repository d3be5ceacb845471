/- A node drawn; the draws of FnSteps. -/
import Derived.Test.YtljggmgijadjaaaDrawA
import Derived.Test.YtljggmgijadjaaaArgB
namespace Go.Proofs.Ytljggmgijadjaaa
open Go.RowKit Go.ChangeShapes Go.WideShapes Go.ChangeAt Go.Deep
set_option linter.unusedVariables false
/-- What a draw is told of its bytes. -/
structure CRaw (w : World) (A : Option Addr) (n : Nat) : Prop where
  ex : ∃ bs : List UInt8, bs.length = n ∧ Reads w w.heap.size 1 A n (bs.map byv)
  bd : n ≤ 1048576
theorem CRaw.up {W w : World} {A : Option Addr} {n : Nat} (h : CRaw W A n) (hb : Below W.heap.size W w) : CRaw w A n := by
  obtain ⟨⟨bs, h1, h2⟩, h3⟩ := h
  exact ⟨⟨bs, h1, reads_up h2 hb⟩, h3⟩
theorem new_cur (w : World) {A : Option Addr} {n c : Nat} (h : CRaw w A n) : Calls Try.prog 18 #[.slice A n c] w fun e w' => ∃ cb, e = .returned (.pointer (some ⟨cb, 0, none⟩)) ∧ w.heap.size ≤ cb ∧ Cur w' cb ∧ Below w.heap.size w w' := by
  obtain ⟨⟨bs, h1, h2⟩, h3⟩ := h
  exact l1New_any w h1 h2 h3
set_option maxRecDepth 4000 in
set_option maxHeartbeats 4000000 in
theorem l4Node_any (w : World) {cb : Nat} (hC : Cur w cb) {A : Option Addr} {n c : Nat} {B : Option Addr} {m d : Nat} (hn : n ≤ 5) :
    Calls Try.prog 20 #[.pointer (some ⟨cb, 0, none⟩), .agg #[.slice A n c, .slice B m d]] w fun e w' => ∃ q : Int, e = .returned (.int .i64 q) ∧ (Lit.int .i64 q).wf = true ∧ Cur w' cb ∧ Tch cb (cb + 1) w w' := by
  have hcb := hC.lt
  have b0 : Below w.heap.size w (w.alloc (.cells #[.slice A n c, .slice B m d] 27)) := (Below.refl _ _).alloc (Nat.le_refl _) _
  have X0 := Blk.new w 27 #[.slice A n c, .slice B m d]
  have C0 := hC.below b0
  have T0 : Tch cb (cb + 1) w (w.alloc (.cells #[.slice A n c, .slice B m d] 27)) := Tch.of_below b0
  generalize hw0 : w.alloc (.cells #[.slice A n c, .slice B m d] 27) = w0 at *
  have HW0 := Lib.hid hw0
  clear hw0 b0
  go_enter Try.func20, Try.ntmps20
  go_wp2_with fail
  rw [HW0.out]
  refine (l1Once_any w0 C0 14 (by omega) (by omega)).mono ?_
  rintro e w1 ⟨b, rfl, C1, t1⟩
  have X1 := X0.tch t1 (by omega)
  cases b
  · have x0 := X1.cell 0
    go_wp2_with fail
    all_goals
      refine (l1Below_all w1 C1 _ (by omega)).mono ?_
      rintro e w2 ⟨x, rfl, hx0, hx1, C2, t2⟩
      have hwf := wf_of (q := x) (by omega) (by omega)
      have T := (T0.trans t1).trans t2
      clear t1 t2 X0 X1 x0
      go_wp2
      go_ret
      exact ⟨_, rfl, hwf, C2, T⟩
  · go_wp2_with fail
    refine (pick_lit w1 C1 [-1, 5, 9223372036854775807] 3 rfl (by omega) (by omega)).mono ?_
    rintro e w2 ⟨x, hx, rfl, C2, t2⟩
    have hb : -1 ≤ x ∧ x ≤ 9223372036854775807 := by
      simp at hx
      omega
    have hwf := wf_of (q := x) (by omega) hb.2
    have T := (T0.trans t1).trans t2
    clear hx hb t1 t2 X0 X1
    go_wp2
    go_ret
    exact ⟨_, rfl, hwf, C2, T⟩
theorem draw_end {z : World} {g lo hi : Nat} {A : Option Addr} {n c : Nat} {B : Option Addr} {m d : Nat} {vs : List Int} {es : List E} (J : GIs z lo hi A n c B m d (vs.map iv) (ecs es)) (hg : g < lo) (hn : n ≤ 5) (hm : m ≤ 12) (u v : Value) : GRd ((z.setCell ⟨g, 0, none⟩ u).setCell ⟨g, 1, none⟩ v) A n B m ⟨vs, es⟩ := by
  have J2 : GIs ((z.setCell ⟨g, 0, none⟩ u).setCell ⟨g, 1, none⟩ v) lo hi A n c B m d (vs.map iv) (ecs es) := ⟨(J.ou.setB (p := ⟨g, 0, none⟩) hg u).setB (p := ⟨g, 1, none⟩) hg v, (J.ov.setB (p := ⟨g, 0, none⟩) hg u).setB (p := ⟨g, 1, none⟩) hg v⟩
  exact ⟨GIs.greads (g := ⟨vs, es⟩) J2, by omega, by omega⟩
set_option maxRecDepth 4000 in
set_option maxHeartbeats 4000000 in
theorem drawSteps_any (w : World) {A0 : Option Addr} {n0 c0 : Nat} (h : CRaw w A0 n0) :
    Calls Try.prog 5 #[.slice A0 n0 c0] w fun e w' => ∃ A n c B m d q, e = .returned (.tuple #[.agg #[.slice A n c, .slice B m d], .int .i64 q]) ∧ (Lit.int .i64 q).wf = true ∧ (∃ vs es, GRd w' A n B m ⟨vs, es⟩) ∧ n ≤ 5 ∧ m ≤ 12 ∧ Below w.heap.size w w' := by
  have hB0 : Below w.heap.size w (w.alloc (.cells #[.slice none 0 0, .slice none 0 0] 27)) := (Below.refl _ _).alloc (Nat.le_refl _) _
  have XR := Blk.new w 27 #[.slice none 0 0, .slice none 0 0]
  have h0 := h.up hB0
  generalize hw0 : w.alloc (.cells #[.slice none 0 0, .slice none 0 0] 27) = w0 at *
  have HW0 := Lib.hid hw0
  clear hw0
  go_enter Try.func5, Try.ntmps5
  go_wp2_with fail
  rw [HW0.out]
  refine (new_cur w0 h0).mono ?_
  rintro e w1 ⟨cb, rfl, hlo, C1, b1⟩
  have hx0 := XR.lt
  have X1 := XR.below b1 XR.lt
  have B1 := below_then hB0 b1
  have hcb := C1.lt
  clear XR hB0 b1 h0 h
  go_wp2_with fail
  refine (l3Any_any w1 C1).mono ?_
  rintro e w2 ⟨A, n, c, B, m, d, rfl, hn, hm, ⟨vs, es, J⟩, C2, t2⟩
  have X2 := X1.tch t2 (by omega)
  have B2 := below_tch B1 t2 (by omega)
  have hz2 := t2.size
  clear t2 X1 B1 C1
  have bG : Below w2.heap.size w2 (w2.alloc (.cells #[.slice A n c, .slice B m d] 27)) := (Below.refl _ _).alloc (Nat.le_refl _) _
  have XG := Blk.new w2 27 #[.slice A n c, .slice B m d]
  have X3 := X2.below bG X2.lt
  have B3 := below_then B2 bG
  have J3 := J.below bG
  have C3 := C2.below bG
  have hgl : w.heap.size < w2.heap.size := X2.lt
  have hgc : cb < w2.heap.size := C2.lt
  have hrl : w.heap.size < w1.heap.size := by omega
  have hcl : cb + 1 ≤ w1.heap.size := hcb
  generalize hw3 : w2.alloc (.cells #[.slice A n c, .slice B m d] 27) = w3 at *
  generalize hgg : w2.heap.size = g at *
  have HW3 := Lib.hid hw3
  have HG := Lib.hid hgg
  clear hw3 hgg bG X2 B2 J C2 hz2
  go_wp2_with fail
  rw [HW3.out, HG.out]
  have CD : Cur w3.drew cb := C3.below ((Below.refl _ _).drew)
  have GD : Blk w3.drew g 27 #[.slice A n c, .slice B m d] := XG.drew
  have RD : Blk w3.drew w.heap.size 27 #[.slice none 0 0, .slice none 0 0] := X3.drew
  have JD : GIs w3.drew w1.heap.size g A n c B m d (vs.map iv) (ecs es) := J3.below ((Below.refl _ _).drew)
  have BD : Below w.heap.size w w3.drew := B3.drew
  have kd0 : w3.drew.cell? ⟨g, 0, none⟩ = some (.slice A n c) := GD.cell 0
  have kd1 : w3.drew.cell? ⟨g, 1, none⟩ = some (.slice B m d) := GD.cell 1
  clear C3 XG X3 J3 B3
  go_region_held3 (fun w' => w'.cell? ⟨g, 0, none⟩ = some (.slice A n c) ∧ w'.cell? ⟨g, 1, none⟩ = some (.slice B m d)) (first | exact ⟨kd0, kd1⟩ | exact ⟨y0, y1⟩ | exact ⟨z0, z1⟩) (first
    | (go_simp; go_at_call 20; refine (l4Node_any _ CD hn).mono ?_; rintro e w4 ⟨q, rfl, hq, C4, t4⟩; have G4 := GD.tch t4 (by omega); have y0 : w4.cell? ⟨g, 0, none⟩ = some (.slice A n c) := G4.cell 0; have y1 : w4.cell? ⟨g, 1, none⟩ = some (.slice B m d) := G4.cell 1; have R4 := RD.tch t4 (by omega); have r0 := R4.cell 0; have r1 := R4.cell 1; have q0 := R4.frozen 0; have q1 := R4.frozen 1; have J4 := JD.tch t4 (.inr hcl); have B4 := below_tch BD t4 (by omega); have z0 : ((w4.setCell ⟨w.heap.size, 0, none⟩ (.slice A n c)).setCell ⟨w.heap.size, 1, none⟩ (.slice B m d)).cell? ⟨g, 0, none⟩ = some (.slice A n c) := ((G4.far_ (by omega) 0 _).far_ (by omega) 1 _).cell 0; have z1 : ((w4.setCell ⟨w.heap.size, 0, none⟩ (.slice A n c)).setCell ⟨w.heap.size, 1, none⟩ (.slice B m d)).cell? ⟨g, 1, none⟩ = some (.slice B m d) := ((G4.far_ (by omega) 0 _).far_ (by omega) 1 _).cell 1))
  all_goals
    have GF := draw_end J4 hrl hn hm (.slice A n c) (.slice B m d)
    have BF := (B4.setCell (p := ⟨w.heap.size, 0, none⟩) (Nat.le_refl _) (.slice A n c)).setCell (p := ⟨w.heap.size, 1, none⟩) (Nat.le_refl _) (.slice B m d)
    have HF := Lib.hid (And.intro GF BF)
    clear GF BF
    go_wp2
    refine bodyPost_ret (v := .tuple #[.agg #[.slice A n c, .slice B m d], .int .i64 q]) ?_ rfl ?_
    · simp [results, Try.results5, go_sem]
      go_simp
    · exact ⟨_, _, _, _, _, _, _, rfl, hq, ⟨_, _, HF.out.1⟩, hn, hm, HF.out.2⟩
set_option maxRecDepth 4000 in
set_option maxHeartbeats 4000000 in
theorem drawHolds_any (w : World) {A0 : Option Addr} {n0 c0 : Nat} (h : CRaw w A0 n0) :
    Calls Try.prog 15 #[.slice A0 n0 c0] w fun e w' => ∃ A n c B m d q p, e = .returned (.tuple #[.agg #[.slice A n c, .slice B m d], .int .i64 q, .int .i64 p]) ∧ (Lit.int .i64 q).wf = true ∧ -1 ≤ p ∧ p ≤ 9 ∧ (∃ vs es, GRd w' A n B m ⟨vs, es⟩) ∧ n ≤ 5 ∧ m ≤ 12 ∧ Below w.heap.size w w' := by
  have hB0 : Below w.heap.size w (w.alloc (.cells #[.slice none 0 0, .slice none 0 0] 27)) := (Below.refl _ _).alloc (Nat.le_refl _) _
  have XR := Blk.new w 27 #[.slice none 0 0, .slice none 0 0]
  have h0 := h.up hB0
  generalize hw0 : w.alloc (.cells #[.slice none 0 0, .slice none 0 0] 27) = w0 at *
  have HW0 := Lib.hid hw0
  clear hw0
  go_enter Try.func15, Try.ntmps15
  go_wp2_with fail
  rw [HW0.out]
  refine (new_cur w0 h0).mono ?_
  rintro e w1 ⟨cb, rfl, hlo, C1, b1⟩
  have hx0 := XR.lt
  have X1 := XR.below b1 XR.lt
  have B1 := below_then hB0 b1
  have hcb := C1.lt
  clear XR hB0 b1 h0 h
  go_wp2_with fail
  refine (l3Any_any w1 C1).mono ?_
  rintro e w2 ⟨A, n, c, B, m, d, rfl, hn, hm, ⟨vs, es, J⟩, C2, t2⟩
  have X2 := X1.tch t2 (by omega)
  have B2 := below_tch B1 t2 (by omega)
  have hz2 := t2.size
  clear t2 X1 B1 C1
  have bG : Below w2.heap.size w2 (w2.alloc (.cells #[.slice A n c, .slice B m d] 27)) := (Below.refl _ _).alloc (Nat.le_refl _) _
  have XG := Blk.new w2 27 #[.slice A n c, .slice B m d]
  have X3 := X2.below bG X2.lt
  have B3 := below_then B2 bG
  have J3 := J.below bG
  have C3 := C2.below bG
  have hgl : w.heap.size < w2.heap.size := X2.lt
  have hgc : cb < w2.heap.size := C2.lt
  have hrl : w.heap.size < w1.heap.size := by omega
  have hcl : cb + 1 ≤ w1.heap.size := hcb
  generalize hw3 : w2.alloc (.cells #[.slice A n c, .slice B m d] 27) = w3 at *
  generalize hgg : w2.heap.size = g at *
  have HW3 := Lib.hid hw3
  have HG := Lib.hid hgg
  clear hw3 hgg bG X2 B2 J C2 hz2
  go_wp2_with fail
  rw [HW3.out, HG.out]
  have CD : Cur w3.drew cb := C3.below ((Below.refl _ _).drew)
  have GD : Blk w3.drew g 27 #[.slice A n c, .slice B m d] := XG.drew
  have RD : Blk w3.drew w.heap.size 27 #[.slice none 0 0, .slice none 0 0] := X3.drew
  have JD : GIs w3.drew w1.heap.size g A n c B m d (vs.map iv) (ecs es) := J3.below ((Below.refl _ _).drew)
  have BD : Below w.heap.size w w3.drew := B3.drew
  have kd0 : w3.drew.cell? ⟨g, 0, none⟩ = some (.slice A n c) := GD.cell 0
  have kd1 : w3.drew.cell? ⟨g, 1, none⟩ = some (.slice B m d) := GD.cell 1
  clear C3 XG X3 J3 B3
  go_region_held3 (fun w' => w'.cell? ⟨g, 0, none⟩ = some (.slice A n c) ∧ w'.cell? ⟨g, 1, none⟩ = some (.slice B m d)) (first | exact ⟨kd0, kd1⟩ | exact ⟨y0, y1⟩ | exact ⟨v0, v1⟩ | exact ⟨z0, z1⟩) (first
    | (go_simp; go_at_call 28; refine (l1Below_all _ C4 11 (by omega)).mono ?_; rintro e w5 ⟨p, rfl, hp0, hp1, C5, t5⟩; have G5 := G4.tch t5 (by omega); have v0 : w5.cell? ⟨g, 0, none⟩ = some (.slice A n c) := G5.cell 0; have v1 : w5.cell? ⟨g, 1, none⟩ = some (.slice B m d) := G5.cell 1; have R5 := R4.tch t5 (by omega); have r0 := R5.cell 0; have r1 := R5.cell 1; have q0 := R5.frozen 0; have q1 := R5.frozen 1; have J5 := J4.tch t5 (.inr hcl); have B5 := below_tch B4 t5 (by omega); have hwp : IntKind.i64.wrap (p - 1) = p - 1 := IntWalk.i64_in _ (by omega); have hpa : -1 ≤ p - 1 := (by omega); have hpb : p - 1 ≤ 9 := (by omega); have z0 : ((w5.setCell ⟨w.heap.size, 0, none⟩ (.slice A n c)).setCell ⟨w.heap.size, 1, none⟩ (.slice B m d)).cell? ⟨g, 0, none⟩ = some (.slice A n c) := ((G5.far_ (by omega) 0 _).far_ (by omega) 1 _).cell 0; have z1 : ((w5.setCell ⟨w.heap.size, 0, none⟩ (.slice A n c)).setCell ⟨w.heap.size, 1, none⟩ (.slice B m d)).cell? ⟨g, 1, none⟩ = some (.slice B m d) := ((G5.far_ (by omega) 0 _).far_ (by omega) 1 _).cell 1)
    | (go_simp; go_at_call 20; refine (l4Node_any _ CD hn).mono ?_; rintro e w4 ⟨q, rfl, hq, C4, t4⟩; have G4 := GD.tch t4 (by omega); have y0 : w4.cell? ⟨g, 0, none⟩ = some (.slice A n c) := G4.cell 0; have y1 : w4.cell? ⟨g, 1, none⟩ = some (.slice B m d) := G4.cell 1; have R4 := RD.tch t4 (by omega); have J4 := JD.tch t4 (.inr hcl); have B4 := below_tch BD t4 (by omega)))
  all_goals
    have GF := draw_end J5 hrl hn hm (.slice A n c) (.slice B m d)
    have BF := (B5.setCell (p := ⟨w.heap.size, 0, none⟩) (Nat.le_refl _) (.slice A n c)).setCell (p := ⟨w.heap.size, 1, none⟩) (Nat.le_refl _) (.slice B m d)
    have HF := Lib.hid (And.intro GF BF)
    clear GF BF
    go_wp2
    refine bodyPost_ret (v := .tuple #[.agg #[.slice A n c, .slice B m d], .int .i64 q, .int .i64 (p - 1)]) ?_ rfl ?_
    · simp [results, Try.results15, go_sem]
      go_simp
    · exact ⟨_, _, _, _, _, _, _, _, rfl, hq, hpa, hpb, ⟨_, _, HF.out.1⟩, hn, hm, HF.out.2⟩
end Go.Proofs.Ytljggmgijadjaaa
