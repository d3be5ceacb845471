/- The draws of FnGraphs. -/
import Derived.Test.YtljggmgijadjaaaGreatDoorDrwY
namespace Go.Proofs.YtljggmgijadjaaaGreatDoor
open Go.RowKit Go.ChangeShapes Go.WideShapes Go.ChangeAt Go.Deep
set_option linter.unusedVariables false
theorem gis_grd {w : World} {lo hi : Nat} {A : Option Addr} {n c : Nat} {B : Option Addr} {m d : Nat} {vs : List Int} {es : List E} (J : GIs w lo hi A n c B m d (vs.map iv) (ecs es)) (hn : n ≤ 5) (hm : m ≤ 12) : GRd w A n B m ⟨vs, es⟩ := ⟨GIs.greads (g := ⟨vs, es⟩) J, by omega, by omega⟩
theorem gis_cap {w : World} {lo hi : Nat} {A : Option Addr} {n c : Nat} {B : Option Addr} {m d : Nat} {xs ys : List Value} (J : GIs w lo hi A n c B m d xs ys) : m ≤ d := by
  obtain ⟨B2, d2, hv, h, _⟩ := own_form J.ov.own.row
  injection hv with _ _ h3
  omega
theorem Tch.sc {lo hi b : Nat} {w w' : World} (h : Tch lo hi w w') (h1 : lo ≤ b) (h2 : b < hi) (i : Nat) (u : Value) : Tch lo hi w (w'.setCell ⟨b, i, none⟩ u) := h.setCell (p := ⟨b, i, none⟩) h1 h2 u
set_option maxRecDepth 4000 in
set_option maxHeartbeats 4000000 in
theorem drawInsert_any (w : World) {A0 : Option Addr} {n0 c0 : Nat} (h : CRaw w A0 n0) :
    Calls Tryz.prog 7 #[.slice A0 n0 c0] w fun e w' => ∃ (A : Option Addr) (n c : Nat) (B : Option Addr) (m d : Nat) (x : E), e = .returned (.tuple #[.agg #[.slice A n c, .slice B m d], .agg #[.int .i64 x.id, .int .i64 x.fr, .int .i64 x.to, .int .i64 x.lb]]) ∧ m ≤ d ∧ (∃ vs es, GRd w' A n B m ⟨vs, es⟩) ∧ n ≤ 5 ∧ m ≤ 12 ∧ Below w.heap.size w w' := by
  have hBa : Below w.heap.size w (w.alloc (.cells #[.slice none 0 0, .slice none 0 0] 27)) := (Below.refl _ _).alloc (Nat.le_refl _) _
  have hB0 : Below w.heap.size w ((w.alloc (.cells #[.slice none 0 0, .slice none 0 0] 27)).alloc (.cells zE 29)) := hBa.alloc hBa.size _
  have XR := (Blk.new w 27 #[.slice none 0 0, .slice none 0 0]).alloc (.cells zE 29)
  have XQ := Blk.new (w.alloc (.cells #[.slice none 0 0, .slice none 0 0] 27)) 29 zE
  have hsz : (w.alloc (.cells #[.slice none 0 0, .slice none 0 0] 27)).heap.size = w.heap.size + 1 := by simp
  rw [hsz] at XQ
  have h0 := h.up hB0
  generalize hw0 : (w.alloc (.cells #[.slice none 0 0, .slice none 0 0] 27)).alloc (.cells zE 29) = w0 at *
  have HW0 := Lib.hid hw0
  clear hw0 hsz hBa
  go_enter Tryz.func7, Tryz.ntmps7
  go_wp2_with fail
  try rw [HW0.out]
  refine (new_cur w0 h0).mono ?_
  rintro e w1 ⟨cb, rfl, hlo, C1, b1⟩
  have hx0 := XQ.lt
  have X1 := XR.below b1 XR.lt
  have Q1 := XQ.below b1 XQ.lt
  have B1 := below_then hB0 b1
  have hcb := C1.lt
  clear XR XQ hB0 b1 h0 h
  go_wp2_with fail
  refine (l3Any_any w1 C1).mono ?_
  rintro e w2 ⟨A, n, c, B, m, d, rfl, hn, hm, ⟨vs, es, J⟩, C2, t2⟩
  have X2 := X1.tch t2 (by omega)
  have Q2 := Q1.tch t2 (by omega)
  have B2 := below_tch B1 t2 (by omega)
  have hz2 := t2.size
  have hmd := gis_cap J
  clear t2 X1 Q1 B1 C1
  have bG : Below w2.heap.size w2 (w2.alloc (.cells #[.slice A n c, .slice B m d] 27)) := (Below.refl _ _).alloc (Nat.le_refl _) _
  have XG := Blk.new w2 27 #[.slice A n c, .slice B m d]
  have X3 := X2.below bG X2.lt
  have Q3 := Q2.below bG Q2.lt
  have B3 := below_then B2 bG
  have J3 := J.below bG
  have C3 := C2.below bG
  have hgl : w.heap.size + 1 < w2.heap.size := Q2.lt
  have hgc : cb < w2.heap.size := C2.lt
  have hrl : w.heap.size + 2 ≤ w1.heap.size := by omega
  have hcl : cb + 1 ≤ w1.heap.size := hcb
  generalize hw3 : w2.alloc (.cells #[.slice A n c, .slice B m d] 27) = w3 at *
  generalize hgg : w2.heap.size = g at *
  have HW3 := Lib.hid hw3
  have HG := Lib.hid hgg
  clear hw3 hgg bG X2 Q2 B2 J C2 hz2
  go_wp2_with fail
  rw [HW3.out, HG.out]
  have CD : Cur w3.drew cb := C3.below ((Below.refl _ _).drew)
  have GD : Blk w3.drew g 27 #[.slice A n c, .slice B m d] := XG.drew
  have RD : Blk w3.drew w.heap.size 27 #[.slice none 0 0, .slice none 0 0] := X3.drew
  have QD : Blk w3.drew (w.heap.size + 1) 29 zE := Q3.drew
  have JD : GIs w3.drew w1.heap.size g A n c B m d (vs.map iv) (ecs es) := J3.below ((Below.refl _ _).drew)
  have BD : Below w.heap.size w w3.drew := B3.drew
  have kd0 : w3.drew.cell? ⟨g, 0, none⟩ = some (.slice A n c) := GD.cell 0
  have kd1 : w3.drew.cell? ⟨g, 1, none⟩ = some (.slice B m d) := GD.cell 1
  have ne1 : w.heap.size ≠ g := by omega
  have ne2 : w.heap.size + 1 ≠ g := by omega
  have ne3 : w.heap.size + 1 ≠ w.heap.size := by omega
  have ne4 : w.heap.size ≠ w.heap.size + 1 := by omega
  clear C3 XG X3 Q3 J3 B3
  go_region_held3 (fun w' => w'.cell? ⟨g, 0, none⟩ = some (.slice A n c) ∧ w'.cell? ⟨g, 1, none⟩ = some (.slice B m d)) (first | with_reducible exact ⟨kd0, kd1⟩ | with_reducible exact ⟨y0, y1⟩ | (simp only [y0, y1, World.cell?_setCell_far, ne1, ne2, ne_eq, not_false_eq_true, and_self])) (first
    | (go_simp; go_at_call 57; refine (l3Some_any _ CD hn).mono ?_; rintro e w4 ⟨x, rfl, C4, t4⟩; have G4 := GD.tch t4 (by omega); have y0 : w4.cell? ⟨g, 0, none⟩ = some (.slice A n c) := G4.cell 0; have y1 : w4.cell? ⟨g, 1, none⟩ = some (.slice B m d) := G4.cell 1; have R4 := RD.tch t4 (by omega); have Q4 := QD.tch t4 (by omega); have r0 := R4.cell 0; have r1 := R4.cell 1; have q0 := R4.frozen 0; have q1 := R4.frozen 1; have r2 := Q4.cell 0; have r3 := Q4.cell 1; have r4 := Q4.cell 2; have r5 := Q4.cell 3; have q2 := Q4.frozen 0; have q3 := Q4.frozen 1; have q4 := Q4.frozen 2; have q5 := Q4.frozen 3; have J4 := JD.tch t4 (.inr hcl); have B4 := below_tch BD t4 (by omega); obtain ⟨xi, xf, xt, xl⟩ := x))
  all_goals
    go_wp2
    refine bodyPost_ret (v := .tuple #[.agg #[.slice A n c, .slice B m d], .agg #[.int .i64 xi, .int .i64 xf, .int .i64 xt, .int .i64 xl]]) ?_ rfl ?_
    · simp [results, Tryz.results7, go_sem]
      go_simp
    · refine ⟨A, n, c, B, m, d, ⟨xi, xf, xt, xl⟩, rfl, hmd, ⟨vs, es, gis_grd (J4.tch (lo := w.heap.size) (hi := w.heap.size + 2) ?_ (.inr hrl)) hn hm⟩, hn, hm, below_tch (lo := w.heap.size) (hi := w.heap.size + 2) B4 ?_ (Nat.le_refl _)⟩
      all_goals
        repeat (with_reducible refine Tch.sc ?_ (by omega) (by omega) _ _)
        exact Tch.refl _ _ _
set_option maxRecDepth 4000 in
set_option maxHeartbeats 4000000 in
theorem drawSet_any (w : World) {A0 : Option Addr} {n0 c0 : Nat} (h : CRaw w A0 n0) :
    Calls Tryz.prog 20 #[.slice A0 n0 c0] w fun e w' => ∃ A n c B m d p q, e = .returned (.tuple #[.agg #[.slice A n c, .slice B m d], .int .i64 p, .int .i64 q]) ∧ (∃ vs es, GRd w' A n B m ⟨vs, es⟩) ∧ n ≤ 5 ∧ m ≤ 12 ∧ Below w.heap.size w w' := by
  have hB0 : Below w.heap.size w (w.alloc (.cells #[.slice none 0 0, .slice none 0 0] 27)) := (Below.refl _ _).alloc (Nat.le_refl _) _
  have XR := Blk.new w 27 #[.slice none 0 0, .slice none 0 0]
  have h0 := h.up hB0
  generalize hw0 : w.alloc (.cells #[.slice none 0 0, .slice none 0 0] 27) = w0 at *
  have HW0 := Lib.hid hw0
  clear hw0
  go_enter Tryz.func20, Tryz.ntmps20
  go_wp2_with fail
  try rw [HW0.out]
  refine (new_cur w0 h0).mono ?_
  rintro e w1 ⟨cb, rfl, hlo, C1, b1⟩
  have hx0 := XR.lt
  have X1 := XR.below b1 XR.lt
  have B1 := below_then hB0 b1
  have hcb := C1.lt
  clear XR hB0 b1 h0 h
  go_wp2_with fail
  refine (l3Any_any w1 C1).mono ?_
  rintro e w2 ⟨A, n, c, B, m, d, rfl, hn, hm, ⟨vs, es, J⟩, C2, t2⟩
  have X2 := X1.tch t2 (by omega)
  have B2 := below_tch B1 t2 (by omega)
  have hcl : cb + 1 ≤ w1.heap.size := hcb
  clear t2 X1 B1 C1
  go_wp2_with fail
  refine (l1Below_all w2 C2 7 (by omega)).mono ?_
  rintro e w3 ⟨p, rfl, hp0, hp1, C3, t3⟩
  have X3 := X2.tch t3 (by omega)
  have B3 := below_tch B2 t3 (by omega)
  have J3 := J.tch t3 (.inr hcl)
  clear t3 X2 B2 J C2
  go_wp2_with fail
  refine (l1Below_all w3 C3 5 (by omega)).mono ?_
  rintro e w4 ⟨q, rfl, hq0, hq1, C4, t4⟩
  have X4 := X3.tch t4 (by omega)
  have B4 := below_tch B3 t4 (by omega)
  have J4 := J3.tch t4 (.inr hcl)
  have r0 := X4.cell 0
  have r1 := X4.cell 1
  have f0 := X4.frozen 0
  have f1 := X4.frozen 1
  have hw1 : IntKind.i64.wrap (p - 1) = p - 1 := IntWalk.i64_in _ (by omega)
  have hw2 : IntKind.i64.wrap (q - 1) = q - 1 := IntWalk.i64_in _ (by omega)
  have hrl : w.heap.size + 1 ≤ w1.heap.size := by omega
  clear t4 X3 B3 J3 C3 X4
  go_wp2
  refine bodyPost_ret (v := .tuple #[.agg #[.slice A n c, .slice B m d], .int .i64 (p - 1), .int .i64 (q - 1)]) ?_ rfl ?_
  · simp [results, Tryz.results20, go_sem]
    go_simp
  · refine ⟨A, n, c, B, m, d, _, _, rfl, ⟨vs, es, gis_grd (J4.tch (lo := w.heap.size) (hi := w.heap.size + 1) ?_ (.inr hrl)) hn hm⟩, hn, hm, below_tch (lo := w.heap.size) (hi := w.heap.size + 1) B4 ?_ (Nat.le_refl _)⟩
    all_goals
      repeat (with_reducible refine Tch.sc ?_ (by omega) (by omega) _ _)
      exact Tch.refl _ _ _
set_option maxRecDepth 4000 in
set_option maxHeartbeats 4000000 in
theorem drawParseE_any (w : World) {A0 : Option Addr} {n0 c0 : Nat} (h : CRaw w A0 n0) :
    Calls Tryz.prog 17 #[.slice A0 n0 c0] w fun e w' => ∃ T : ByteArray, e = .returned (.string T) ∧ T.size ≤ 1000 ∧ Below w.heap.size w w' := by
  go_enter Tryz.func17, Tryz.ntmps17
  go_wp2_with fail
  refine (new_cur w h).mono ?_
  rintro e w1 ⟨cb, rfl, hlo, C1, B1⟩
  go_wp2_with fail
  refine (l3Graph_any w1 C1).mono ?_
  rintro e w2 ⟨A, n, c, B, m, d, rfl, hn2, hn5, hm, _, C2, t2⟩
  have B2 := below_tch B1 t2 hlo
  go_wp2_with fail
  refine (l3Some_any w2 C2 hn5).mono ?_
  rintro e w3 ⟨x, rfl, C3, t3⟩
  have B3 := below_tch B2 t3 hlo
  go_wp2_with fail
  refine (specFormatEdge_any w3 x).mono ?_
  obtain ⟨S, hS⟩ : ∃ S : ByteArray, (⟨(fmtE x).toArray⟩ : ByteArray) = S := ⟨_, rfl⟩
  have hSz : S.size ≤ 16 := by
    rw [← hS, Lib.size_eq]
    exact fmtE_len x
  rw [hS]
  rintro e w4 ⟨rfl, b4⟩
  have C4 := C3.below b4
  have B4 := below_then B3 b4
  clear hS b4 t2 t3 C1 C2 C3 B1 B2 B3
  go_wp2_with fail
  refine (l1Below_all w4 C4 4 (by omega)).mono ?_
  rintro e w5 ⟨q, rfl, hq0, hq1, C5, t5⟩
  have B5 := below_tch B4 t5 hlo
  clear t5 C4 B4
  by_cases h0 : q = 0
  · subst h0
    go_wp2_with fail
    refine (l1Spoil_any w5 C5 S (by omega)).mono ?_
    rintro e w6 ⟨T, rfl, hT, C6, t6⟩
    have B6 := below_tch B5 t6 hlo
    have hT2 : T.size ≤ 1000 := by omega
    clear t6
    go_wp2
    go_ret
    exact ⟨_, rfl, hT2, B6⟩
  · by_cases h1 : q = 1
    · subst h1
      go_wp2_with fail
      refine (pickS_lit w5 C5 [⟨#[]⟩, ⟨#[49, 58, 48, 97, 49]⟩, ⟨#[48, 49, 58, 48, 97, 49]⟩, ⟨#[49, 58, 48, 97, 53]⟩, ⟨#[49, 58, 48, 100, 49]⟩, ⟨#[48, 58, 48, 97, 49]⟩, ⟨#[49, 48, 48, 58, 48, 97, 49]⟩, ⟨#[49, 58, 48, 97, 45, 49]⟩, ⟨#[49, 58, 48, 97, 49, 32]⟩, ⟨#[49, 58, 48, 48, 49]⟩] 10 rfl (by omega) (by omega) (by decide)).mono ?_
      rintro e w6 ⟨T, rfl, hT, C6, t6⟩
      have B6 := below_tch B5 t6 hlo
      have hT2 : T.size ≤ 1000 := by omega
      clear t6
      go_wp2
      go_ret
      exact ⟨_, rfl, hT2, B6⟩
    · have hT2 : S.size ≤ 1000 := by omega
      go_wp2
      go_ret
      exact ⟨_, rfl, hT2, B5⟩
end Go.Proofs.YtljggmgijadjaaaGreatDoor
