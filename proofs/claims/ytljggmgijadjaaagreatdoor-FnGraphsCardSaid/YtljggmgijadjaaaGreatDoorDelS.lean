/- DeleteEdge of the reference. -/
import Derived.Test.YtljggmgijadjaaaGreatDoorDelE
namespace Go.Proofs.YtljggmgijadjaaaGreatDoor
open Go.RowKit Go.ChangeShapes Go.WideShapes Go.ChangeAt Go.Deep
set_option linter.unusedVariables false
theorem reads_take {w : World} {B size n k : Nat} {A : Option Addr} {xs : List Value} (h : Reads w B size A n xs) (hk : k ≤ n) : Reads w B size A k (xs.take (k * size)) := by
  have hl := h.1
  have hm : k * size ≤ n * size := Nat.mul_le_mul_right _ hk
  refine ⟨by rw [List.length_take]; omega, fun hp => ?_⟩
  obtain ⟨ad, e, hb, hc⟩ := h.2 (by omega)
  refine ⟨ad, e, hb, fun j u hu => hc j u ?_⟩
  rw [List.getElem?_take] at hu
  split at hu
  · exact hu
  · cases hu
/-- What a cut behind k + 1 elements reads. -/
theorem reads_cut1 {w : World} {B size k r cap b o : Nat} {xs : List Value} (h : Reads w B size (some ⟨b, o, none⟩) (k + r + 1) xs) (hc : k + r + 1 ≤ cap) :
    ∃ A1, (if cap = k + 1 then (some ⟨b, o, none⟩ : Option Addr) else some ⟨b, o + (k + 1) * size, none⟩) = A1 ∧ Reads w B size A1 r (xs.drop ((k + 1) * size)) := by
  have := h.cut (k := k + 1) (cap := cap) (by omega) hc
  rw [Option.map_some, add_plain, show k + r + 1 - (k + 1) = r by omega] at this
  exact ⟨_, rfl, this⟩
set_option maxRecDepth 4000 in
set_option maxHeartbeats 2000000 in
theorem specDeleteEdge_is (w : World) {A B : Option Addr} {n c m d : Nat} {g : G} (h : GRd w A n B m g) (i : Int) (hcap : m ≤ d) :
    Calls Tryz.prog 135 #[.agg #[.slice A n c, .slice B m d], .int .i64 i] w fun e w' => ∃ A2 n2 c2 B2 m2 d2, e = .returned (.tuple #[.agg #[.slice A2 n2 c2, .slice B2 m2 d2], .bool (delG g i).2]) ∧ GIs w' w.heap.size w'.heap.size A2 n2 c2 B2 m2 d2 ((delG g i).1.vs.map iv) (ecs (delG g i).1.es) ∧ Below w.heap.size w w' := by
  have hn := h.bn
  have hm := h.bm
  have lm := h.gr.lm
  have HLM := Lib.hid lm
  clear lm
  go_enter Tryz.func135, Tryz.ntmps135
  go_wp2_with fail
  have hB0 : Below w.heap.size w ((w.alloc (.cells #[.slice A n c, .slice B m d] 27)).alloc (.cells #[.slice none 0 0, .slice none 0 0] 27)) := ((Below.refl _ _).alloc (Nat.le_refl _) _).alloc (by simp) _
  have kA : ((w.alloc (.cells #[.slice A n c, .slice B m d] 27)).alloc (.cells #[.slice none 0 0, .slice none 0 0] 27)).cell? ⟨w.heap.size, 0, none⟩ = some (.slice A n c) := by go_simp
  have kB : ((w.alloc (.cells #[.slice A n c, .slice B m d] 27)).alloc (.cells #[.slice none 0 0, .slice none 0 0] 27)).cell? ⟨w.heap.size, 1, none⟩ = some (.slice B m d) := by go_simp
  have r0 : ((w.alloc (.cells #[.slice A n c, .slice B m d] 27)).alloc (.cells #[.slice none 0 0, .slice none 0 0] 27)).cell? ⟨w.heap.size + 1, 0, none⟩ = some (.slice none 0 0) := by go_simp
  have r1 : ((w.alloc (.cells #[.slice A n c, .slice B m d] 27)).alloc (.cells #[.slice none 0 0, .slice none 0 0] 27)).cell? ⟨w.heap.size + 1, 1, none⟩ = some (.slice none 0 0) := by go_simp
  have f0 : ((w.alloc (.cells #[.slice A n c, .slice B m d] 27)).alloc (.cells #[.slice none 0 0, .slice none 0 0] 27)).frozen? ⟨w.heap.size + 1, 0, none⟩ = false := by go_simp
  have f1 : ((w.alloc (.cells #[.slice A n c, .slice B m d] 27)).alloc (.cells #[.slice none 0 0, .slice none 0 0] 27)).frozen? ⟨w.heap.size + 1, 1, none⟩ = false := by go_simp
  have hz0 : w.heap.size + 1 < ((w.alloc (.cells #[.slice A n c, .slice B m d] 27)).alloc (.cells #[.slice none 0 0, .slice none 0 0] 27)).heap.size := by simp
  generalize ((w.alloc (.cells #[.slice A n c, .slice B m d] 27)).alloc (.cells #[.slice none 0 0, .slice none 0 0] 27)) = w0 at *
  refine (specEdgeIx_rd _ (h.up hB0) i).mono ?_
  rintro e w1 ⟨rfl, hb1⟩
  have hB1 := below_then hB0 hb1
  have hz1 := hb1.size
  have kA1 := cell_keep hb1 kA
  have kB1 := cell_keep hb1 kB
  have r01 := cell_keep hb1 r0
  have r11 := cell_keep hb1 r1
  have f01 := frozen_keep hb1 r0 f0
  have f11 := frozen_keep hb1 r1 f1
  have hx1 : w.heap.size + 1 < w1.heap.size := by omega
  clear kA kB r0 r1 f0 f1
  go_wp2_with fail
  refine (specValid_rd _ (h.up hB1)).mono ?_
  rintro e w2 ⟨rfl, hb2⟩
  have hB2 := below_then hB1 hb2
  have hz2 := hb2.size
  have kA2 := cell_keep hb2 kA1
  have kB2 := cell_keep hb2 kB1
  have r02 := cell_keep hb2 r01
  have r12 := cell_keep hb2 r11
  have f02 := frozen_keep hb2 r01 f01
  have f12 := frozen_keep hb2 r11 f11
  have hx2 : w.heap.size + 1 < w2.heap.size := by omega
  clear kA1 kB1 r01 r11 f01 f11 hb1 hb2 hB0 hB1
  have hno : delOk g i = false → Hid (delG g i = (g, false)) := fun h => Lib.hid (delG_no h)
  cases hv : validG g
  · have HG := hno (by simp [delOk, hv])
    clear hno hv
    go_wp2_with fail
    refine (l3Copy_is _ (h.up hB2)).mono ?_
    rintro e w3 ⟨A1, c1, B1, d1, rfl, I3, hb3⟩
    have hB3 := below_then hB2 hb3
    have hz3 := hb3.size
    have r03 := cell_keep hb3 r02
    have r13 := cell_keep hb3 r12
    have f03 := frozen_keep hb3 r02 f02
    have f13 := frozen_keep hb3 r12 f12
    have hx3 : w.heap.size + 1 < w3.heap.size := by omega
    clear r02 r12 f02 f12 hb3 kA2 kB2
    go_wp2_with fail
    refine bodyPost_ret (v := .tuple #[.agg #[.slice A1 n c1, .slice B1 m d1], .bool false]) ?_ rfl ?_
    · simp [results, Tryz.results135, go_sem]
      go_simp
    · rw [HG.out]
      exact ⟨_, _, _, _, _, _, rfl, gis_ret I3 _ _ _ _ (by omega) (by omega) (by omega), below_ret hB3 _ _ _ (by omega)⟩
  · by_cases hix : ixN g.es i < g.es.length
    rotate_left
    · have HG := hno (by simp [delOk, hix])
      rw [ixE_no hix]
      clear hno hv hix
      go_wp2_with fail
      refine (l3Copy_is _ (h.up hB2)).mono ?_
      rintro e w3 ⟨A1, c1, B1, d1, rfl, I3, hb3⟩
      have hB3 := below_then hB2 hb3
      have hz3 := hb3.size
      have r03 := cell_keep hb3 r02
      have r13 := cell_keep hb3 r12
      have f03 := frozen_keep hb3 r02 f02
      have f13 := frozen_keep hb3 r12 f12
      have hx3 : w.heap.size + 1 < w3.heap.size := by omega
      clear r02 r12 f02 f12 hb3 kA2 kB2
      go_wp2_with fail
      refine bodyPost_ret (v := .tuple #[.agg #[.slice A1 n c1, .slice B1 m d1], .bool false]) ?_ rfl ?_
      · simp [results, Tryz.results135, go_sem]
        go_simp
      · rw [HG.out]
        exact ⟨_, _, _, _, _, _, rfl, gis_ret I3 _ _ _ _ (by omega) (by omega) (by omega), below_ret hB3 _ _ _ (by omega)⟩
    · have HG := Lib.hid (delG_yes (g := g) (i := i) (by simp [delOk, hv, hix]))
      rw [ixE_yes hix]
      obtain ⟨k, hk⟩ : ∃ k, ixN g.es i = k := ⟨_, rfl⟩
      rw [hk]
      rw [hk] at HG hix
      have hlm := HLM.out
      obtain ⟨r, rfl⟩ : ∃ r, m = k + r + 1 := ⟨m - k - 1, by omega⟩
      clear hno hv hix hk hlm
      have lmr := HLM.out
      obtain ⟨b, o, rfl, had, _⟩ := edge_at (k := 0) h.gr.re lmr (by omega)
      clear lmr
      have hx2a : w.heap.size < w2.heap.size := by omega
      have q1 : Small (0 + n) := small_of (by omega)
      have hI := (h.up hB2).ints
      have bA : Below w2.heap.size w2 (w2.alloc (.cells #[] 3)) := (Below.refl _ _).alloc (Nat.le_refl _) _
      have oA := own_made (w := w2) (base := w2.heap.size) 3 1 (Nat.le_refl _)
      have rA := (hI.up bA).rd
      have sA := bA.size
      go_wp2_with (at_builtin; go_loud (refine fr_plain _ app_int (by decide) w2.heap.size (.tmp 20) (.tmp 22) rfl rfl _ rfl oA _ _ _ _ _ rfl rA (iv_one _) q1 sA ?_; intro v3 w3 O3 hb30; obtain ⟨A3, c3, rfl, _⟩ := own_form O3; have I30 := RIs.of O3 hn; have hb3 := below_then bA hb30; have hB3 := below_then hB2 hb3; have hz3 := hb3.size; have hx3 : w.heap.size + 1 < w3.heap.size := (by omega); have hx3a : w.heap.size < w3.heap.size := (by omega); have kB3 := cell_keep hb3 kB2; have r03 := cell_keep hb3 r02; have r13 := cell_keep hb3 r12; have f03 := frozen_keep hb3 r02 f02; have f13 := frozen_keep hb3 r12 f12; clear hb30 hb3 O3 bA oA rA sA))
      have hb4 : Below w3.heap.size w3 (w3.alloc (.cells #[.slice A3 n c3, .slice none 0 0] 27)) := (Below.refl _ _).alloc (Nat.le_refl _) _
      have X4 := Blk.new w3 27 #[.slice A3 n c3, .slice none 0 0]
      generalize (w3.alloc (.cells #[.slice A3 n c3, .slice none 0 0] 27)) = w4 at *
      have hB4 := below_then hB3 hb4
      have hz4 := X4.lt
      have kB4 := cell_keep hb4 kB3
      have r04 := cell_keep hb4 r03
      have r14 := cell_keep hb4 r13
      have f04 := frozen_keep hb4 r03 f03
      have f14 := frozen_keep hb4 r13 f13
      have I40 := I30.below hb4
      have q2 : Small (0 + k) := small_of (by omega)
      have q3 : Small (k + r) := small_of (by omega)
      have bE : Below w4.heap.size w4 (w4.alloc (.cells #[] 29)).drew := ((Below.refl _ _).alloc (Nat.le_refl _) _).drew
      have oE := own_drew (own_made (w := w4) (base := w4.heap.size) 29 4 (Nat.le_refl _))
      have sE := bE.size
      have rW := (h.up hB4).edges.rd
      have rE := reads_up (reads_take rW (k := k) (by omega)) bE
      rw [ecs_take] at rE
      obtain ⟨A1, hA1, rD⟩ := reads_cut1 rW hcap
      rw [ecs_drop] at rD
      have hkd : k ≤ d := by omega
      have hkd1 : k + 1 ≤ d := by omega
      have hkn1 : k + 1 ≤ k + r + 1 := by omega
      have hk0 : (0 : Int) ≤ (k : Int) + 1 := by omega
      have hkr : (k : Int) ≤ (k : Int) + r := by omega
      have hw1 : IntKind.i64.wrap ((k : Int) + 1) = (k : Int) + 1 := by rw [IntKind.wrap_i64]; omega
      have hkb : (k : Int) + 1 ≤ (k : Int) + r + 1 := by omega
      have kB5 := cell_keep bE kB4
      clear kB2 kB3 r02 r03 r12 r13 f02 f03 f12 f13 hb4 hB2 hB3 rW had hI kA2 I30
      go_region_held3 (fun w' => w'.cell? ⟨w.heap.size, 1, none⟩ = some (.slice (some ⟨b, o, none⟩) (k + r + 1) d)) (first | exact kB4 | exact kB5 | exact kB6 | exact kB7 | exact (World.cell?_setCell_other _ _ _ _ (by intro e; injection e; omega)).trans kB7) (first
        | (refine ap_step _ app_edge (by decide) w4.heap.size (.tmp 30) (.tmp 35) rfl rfl _ _ _ rfl O6 _ _ _ _ _ rfl rD6 (ecs_one _) q3 hb6.size ?_; intro v7 w7 O7 hg7 hat7; clear hat7; have hb7 := below_grown_own hb6 O6 hg7 (Nat.le_refl _) hb6.size; obtain ⟨B7, d7, rfl, _⟩ := own_form O7; have kB7 := cell_keep hb7 kB4; have X7 := X4.below hb7 hz4; have x71 : w7.cell? ⟨w3.heap.size, 1, none⟩ = some (.slice none 0 0) := (by rw [X7.cell]; rfl); have x7f := X7.frozen 1)
        | (refine fr_step _ app_edge (by decide) w4.heap.size (.tmp 25) (.tmp 29) rfl rfl _ rfl oE _ _ _ _ _ rfl rE (ecs_one _) q2 sE ?_; intro v6 w6 O6 hb60; have hb6 := below_then bE hb60; obtain ⟨B6, d6, rfl, _⟩ := own_form O6; have rD6 := reads_up rD hb6; have kB6 := cell_keep hb6 kB4))
      have hB7 := below_then hB4 hb7
      have z7 := hb7.size
      have I7 := (I40.below hb7).far (p := ⟨w3.heap.size, 1, none⟩) (fun q hq hqe => by have := I40.own.top q hq; simp at hqe; omega) (.slice B7 (k + r) d7)
      rw [← ecs_append] at O7
      have V7 := (RIs.of O7 (by omega)).setB (p := ⟨w3.heap.size, 1, none⟩) (by dsimp only; omega) (.slice B7 (k + r) d7)
      have J7 : GIs (w7.setCell ⟨w3.heap.size, 1, none⟩ (.slice B7 (k + r) d7)) w2.heap.size w7.heap.size A3 n c3 B7 (k + r) d7 (g.vs.map iv) (ecs (g.es.take k ++ g.es.drop (k + 1))) := ⟨I7.wide (Nat.le_refl _) (by omega), V7.wide (by omega) (Nat.le_refl _)⟩
      have hB8 := hB7.setCell (p := ⟨w3.heap.size, 1, none⟩) (by dsimp only; omega) (.slice B7 (k + r) d7)
      have x80 : (w7.setCell ⟨w3.heap.size, 1, none⟩ (.slice B7 (k + r) d7)).cell? ⟨w3.heap.size, 0, none⟩ = some (.slice A3 n c3) := by rw [(X7.set_ 1 _).cell]; rfl
      have x81 : (w7.setCell ⟨w3.heap.size, 1, none⟩ (.slice B7 (k + r) d7)).cell? ⟨w3.heap.size, 1, none⟩ = some (.slice B7 (k + r) d7) := by rw [(X7.set_ 1 _).cell]; rfl
      have e8 : ∀ b o, b ≠ w3.heap.size → (w7.setCell ⟨w3.heap.size, 1, none⟩ (.slice B7 (k + r) d7)).cell? ⟨b, o, none⟩ = w7.cell? ⟨b, o, none⟩ := fun b o hb => World.cell?_setCell_other _ _ _ _ (by intro e; injection e; omega)
      have r8 := (e8 _ _ (by omega)).trans (cell_keep hb7 r04)
      have r8b := (e8 _ _ (by omega)).trans (cell_keep hb7 r14)
      have f8 : (w7.setCell ⟨w3.heap.size, 1, none⟩ (.slice B7 (k + r) d7)).frozen? ⟨w.heap.size + 1, 0, none⟩ = false := (World.frozen?_setCell ..).trans (frozen_keep hb7 r04 f04)
      have f8b : (w7.setCell ⟨w3.heap.size, 1, none⟩ (.slice B7 (k + r) d7)).frozen? ⟨w.heap.size + 1, 1, none⟩ = false := (World.frozen?_setCell ..).trans (frozen_keep hb7 r14 f14)
      have hz8 : w7.heap.size = (w7.setCell ⟨w3.heap.size, 1, none⟩ (.slice B7 (k + r) d7)).heap.size := by simp
      have hz3b := hz3
      clear hg7 hb7 hb6 hb60 e8 X7 X4 O6 O7 I40 I7 V7 kB4 kB5 kB6 kB7 x71 x7f r04 r14 f04 f14 rD rD6 rE oE bE sE hw1 hB7 hB4 h
      generalize w7.setCell ⟨w3.heap.size, 1, none⟩ (.slice B7 (k + r) d7) = w8 at *
      have HZ := Lib.hid hz8
      clear hz8
      go_wp2_with fail
      refine bodyPost_ret (v := .tuple #[.agg #[.slice A3 n c3, .slice B7 (k + r) d7], .bool true]) ?_ rfl ?_
      · simp [results, Tryz.results135, go_sem]
        go_simp
      · rw [HG.out]
        have hz8 := HZ.out
        exact ⟨_, _, _, _, _, _, rfl, gis_ret J7 _ _ _ _ (by omega) (by omega) (by omega), below_ret hB8 _ _ _ (by omega)⟩
end Go.Proofs.YtljggmgijadjaaaGreatDoor
