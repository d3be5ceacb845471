/- SetValue of both packages. -/
import Derived.Test.YtljggmgijadjaaaGreatDoorBaseA
namespace Go.Proofs.YtljggmgijadjaaaGreatDoor
open Go.RowKit Go.ChangeShapes Go.WideShapes Go.ChangeAt Go.Deep
set_option linter.unusedVariables false
section
variable {w w' W : World} {A B : Option Addr} {n c m d lo hi size : Nat} {e : TypeId} {xs : List Value}
theorem implValid_rd (w : World) {g : G} (h : GRd w A n B m g) : Calls Tryz.prog 13 #[.agg #[.slice A n c, .slice B m d]] w fun e w' => e = .returned (.bool (validG g)) ∧ Below w.heap.size w w' := implValid_any A B n c m d g w h.gr h.bn h.bm
theorem specValid_rd (w : World) {g : G} (h : GRd w A n B m g) : Calls Tryz.prog 16 #[.agg #[.slice A n c, .slice B m d]] w fun e w' => e = .returned (.bool (validG g)) ∧ Below w.heap.size w w' := specValid_any A B n c m d g w h.gr h.bn h.bm
theorem RIs.at_ (h : RIs w lo hi e size A n c xs) (hn : 0 < n) : ∃ g, A = some ⟨g, 0, none⟩ ∧ lo ≤ g ∧ g < hi := by
  rcases h.own.row.2 with ⟨hv, _⟩ | ⟨g, cap, cur, hv, hb, _⟩
  · injection hv with h1 h2
    omega
  · injection hv with h1 h2
    exact ⟨g, h1, hb, h.own.top g (by rw [h1]; simp [Value.ownBlock])⟩
theorem RIs.stored {g : Nat} (h : RIs w lo hi e size (some ⟨g, 0, none⟩) n c xs) (k : Nat) (u : Value) : RIs (w.setCell ⟨g, k, none⟩ u) lo hi e size (some ⟨g, 0, none⟩) n c (xs.set k u) :=
  ⟨⟨(h.own.row.stored k u).1, h.own.top⟩, h.bd⟩
theorem RIs.cell {g : Nat} (h : RIs w lo hi e size (some ⟨g, 0, none⟩) n c xs) {k : Nat} {u : Value} (hk : xs[k]? = some u) : w.cell? ⟨g, k, none⟩ = some u := by
  have hl := h.len
  have hkl := (List.getElem?_eq_some_iff.1 hk).1
  rw [h.own.row.cellAt k (by omega)]
  exact hk
theorem RIs.frz {g : Nat} (h : RIs w lo hi e size (some ⟨g, 0, none⟩) n c xs) (k : Nat) : w.frozen? ⟨g, k, none⟩ = false := h.own.row.frozenAt k
/-- A store into another block leaves a row as it is. -/
theorem RIs.far (h : RIs w lo hi e size A n c xs) {p : Addr} (hp : ∀ g, (Value.slice A n c).ownBlock = some g → g ≠ p.block) (u : Value) : RIs (w.setCell p u) lo hi e size A n c xs :=
  ⟨⟨own_same h.own.row fun g hg => Below.heap_setCell w p u g (hp g hg), h.own.top⟩, h.bd⟩
end
/-- The result's cells written: the graph that was made lies as before. -/
theorem gis_ret {w : World} {A B : Option Addr} {n c m d a b : Nat} {xs ys : List Value} (h : GIs w a b A n c B m d xs ys) (r lo : Nat) (u v : Value) (h1 : r < a) (h2 : lo ≤ a) (h3 : b ≤ w.heap.size) :
    GIs ((w.setCell ⟨r, 0, none⟩ u).setCell ⟨r, 1, none⟩ v) lo ((w.setCell ⟨r, 0, none⟩ u).setCell ⟨r, 1, none⟩ v).heap.size A n c B m d xs ys :=
  ⟨(((h.ou.setB (p := ⟨r, 0, none⟩) h1 u).setB (p := ⟨r, 1, none⟩) h1 v).wide h2 (by simpa using h3)), (((h.ov.setB (p := ⟨r, 0, none⟩) h1 u).setB (p := ⟨r, 1, none⟩) h1 v).wide h2 (by simpa using h3))⟩
theorem below_ret {w w3 : World} (h : Below w.heap.size w w3) (r : Nat) (u v : Value) (h1 : w.heap.size ≤ r) : Below w.heap.size w ((w3.setCell ⟨r, 0, none⟩ u).setCell ⟨r, 1, none⟩ v) :=
  (h.setCell (p := ⟨r, 0, none⟩) h1 _).setCell (p := ⟨r, 1, none⟩) h1 _
theorem and3_false {a b c : Bool} (h : (a && b && c) = false) : a = false ∨ (a = true ∧ b = false) ∨ (a = true ∧ b = true ∧ c = false) := by
  revert h
  cases a <;> cases b <;> cases c <;> decide
theorem and3_true {a b c : Bool} (h : (a && b && c) = true) : a = true ∧ b = true ∧ c = true := by
  revert h
  cases a <;> cases b <;> cases c <;> decide
def setOk (g : G) (node v : Int) : Bool := validG g && inB node 0 (g.vs.length - 1) && inB v 0 2
def setG (g : G) (node v : Int) : G × Bool := if setOk g node v then (⟨g.vs.set node.toNat v, g.es⟩, true) else (g, false)
theorem setG_no {g : G} {node v : Int} (h : setOk g node v = false) : setG g node v = (g, false) := by simp [setG, h]
theorem setG_yes {g : G} {node v : Int} (h : setOk g node v = true) : setG g node v = (⟨g.vs.set node.toNat v, g.es⟩, true) := by simp [setG, h]
set_option maxRecDepth 4000 in
set_option maxHeartbeats 2000000 in
theorem implSetValue_is (w : World) {A B : Option Addr} {n c m d : Nat} {g : G} (h : GRd w A n B m g) (node v : Int) :
    Calls Tryz.prog 21 #[.agg #[.slice A n c, .slice B m d], .int .i64 node, .int .i64 v] w fun e w' => ∃ A2 n2 c2 B2 m2 d2, e = .returned (.tuple #[.agg #[.slice A2 n2 c2, .slice B2 m2 d2], .bool (setG g node v).2]) ∧ GIs w' w.heap.size w'.heap.size A2 n2 c2 B2 m2 d2 ((setG g node v).1.vs.map iv) (ecs (setG g node v).1.es) ∧ Below w.heap.size w w' := by
  have hn := h.bn
  have ln := h.gr.ln
  have hok : setOk g node v = (validG g && inB node 0 ((n : Int) - 1) && inB v 0 2) := by rw [setOk, ln]
  have HOK := Lib.hid hok
  have HLN := Lib.hid ln
  clear hok ln
  go_enter Tryz.func21, Tryz.ntmps21
  go_wp2_with fail
  have hB0 : Below w.heap.size w ((w.alloc (.cells #[.slice A n c, .slice B m d] 27)).alloc (.cells #[.slice none 0 0, .slice none 0 0] 27)) := ((Below.refl _ _).alloc (Nat.le_refl _) _).alloc (by simp) _
  have kA : ((w.alloc (.cells #[.slice A n c, .slice B m d] 27)).alloc (.cells #[.slice none 0 0, .slice none 0 0] 27)).cell? ⟨w.heap.size, 0, none⟩ = some (.slice A n c) := by go_simp
  have kB : ((w.alloc (.cells #[.slice A n c, .slice B m d] 27)).alloc (.cells #[.slice none 0 0, .slice none 0 0] 27)).cell? ⟨w.heap.size, 1, none⟩ = some (.slice B m d) := by go_simp
  have r0 : ((w.alloc (.cells #[.slice A n c, .slice B m d] 27)).alloc (.cells #[.slice none 0 0, .slice none 0 0] 27)).cell? ⟨w.heap.size + 1, 0, none⟩ = some (.slice none 0 0) := by go_simp
  have r1 : ((w.alloc (.cells #[.slice A n c, .slice B m d] 27)).alloc (.cells #[.slice none 0 0, .slice none 0 0] 27)).cell? ⟨w.heap.size + 1, 1, none⟩ = some (.slice none 0 0) := by go_simp
  have f0 : ((w.alloc (.cells #[.slice A n c, .slice B m d] 27)).alloc (.cells #[.slice none 0 0, .slice none 0 0] 27)).frozen? ⟨w.heap.size + 1, 0, none⟩ = false := by go_simp
  have f1 : ((w.alloc (.cells #[.slice A n c, .slice B m d] 27)).alloc (.cells #[.slice none 0 0, .slice none 0 0] 27)).frozen? ⟨w.heap.size + 1, 1, none⟩ = false := by go_simp
  have hz0 : w.heap.size + 1 < ((w.alloc (.cells #[.slice A n c, .slice B m d] 27)).alloc (.cells #[.slice none 0 0, .slice none 0 0] 27)).heap.size := by simp
  generalize ((w.alloc (.cells #[.slice A n c, .slice B m d] 27)).alloc (.cells #[.slice none 0 0, .slice none 0 0] 27)) = w0 at *
  refine (copyGraph_is _ (h.up hB0)).mono ?_
  rintro e w1 ⟨A1, c1, B1, d1, rfl, I1, hb1⟩
  have hB1 := below_then hB0 hb1
  have hz1 := hb1.size
  have hx0 : w.heap.size < w1.heap.size := by omega
  have kA1 := cell_keep hb1 kA
  have kB1 := cell_keep hb1 kB
  go_wp2_with fail
  have hb2 : Below w1.heap.size w1 (w1.alloc (.cells #[.slice A1 n c1, .slice B1 m d1] 27)) := (Below.refl _ _).alloc (Nat.le_refl _) _
  have hb02 := below_then hb1 hb2
  have hB2 := below_then hB1 hb2
  have I2 := I1.below hb2
  have oA : (w1.alloc (.cells #[.slice A1 n c1, .slice B1 m d1] 27)).cell? ⟨w1.heap.size, 0, none⟩ = some (.slice A1 n c1) := by go_simp
  have oB : (w1.alloc (.cells #[.slice A1 n c1, .slice B1 m d1] 27)).cell? ⟨w1.heap.size, 1, none⟩ = some (.slice B1 m d1) := by go_simp
  have hz2 : w1.heap.size < (w1.alloc (.cells #[.slice A1 n c1, .slice B1 m d1] 27)).heap.size := by simp
  have kA2 := cell_keep hb02 kA
  have kB2 := cell_keep hb02 kB
  generalize (w1.alloc (.cells #[.slice A1 n c1, .slice B1 m d1] 27)) = w2 at *
  refine (implValid_rd _ (h.up hB2)).mono ?_
  rintro e w3 ⟨rfl, hb3⟩
  have hz3 := hb3.size
  have hb03 := below_then hb02 hb3
  have hB3 := below_then hB2 hb3
  have I3 := I2.below hb3
  have kA3 := cell_keep hb3 kA2
  have kB3 := cell_keep hb3 kB2
  have oA3 := cell_keep hb3 oA
  have oB3 := cell_keep hb3 oB
  have r03 := cell_keep hb03 r0
  have r13 := cell_keep hb03 r1
  have f03 := frozen_keep hb03 r0 f0
  have f13 := frozen_keep hb03 r1 f1
  have hx1 : w.heap.size + 1 ≠ w1.heap.size := by omega
  have hx2 : w.heap.size + 1 < w3.heap.size := by omega
  clear kA kB kA1 kB1 kA2 kB2 oA oB r0 r1 f0 f1 hb1 hb2 hb3 hb02 I1 I2 hB0 hB1 hB2
  cases hok : setOk g node v
  · have HG := Lib.hid (setG_no hok)
    have hparts : validG g = false ∨ (validG g = true ∧ inB node 0 ((n : Int) - 1) = false) ∨ (validG g = true ∧ inB node 0 ((n : Int) - 1) = true ∧ inB v 0 2 = false) := and3_false (by rw [← HOK.out, hok])
    clear hok
    rcases hparts with hv | ⟨hv, hi⟩ | ⟨hv, hi, hj⟩
    · rw [hv]
      clear hv
      go_wp2_with (go_at_call 69; refine (within_any _ _ _ _).mono ?_; (first | rw [HI.out] | rw [HJ.out]); rintro e w' ⟨rfl, rfl⟩)
      refine bodyPost_ret (v := .tuple #[.agg #[.slice A1 n c1, .slice B1 m d1], .bool false]) ?_ rfl ?_
      · simp [results, Tryz.results21, go_sem]
        go_simp
      · rw [HG.out]
        exact ⟨_, _, _, _, _, _, rfl, gis_ret I3 _ _ _ _ hz0 (by omega) (by omega), below_ret hB3 _ _ _ (by omega)⟩
    · have HI := Lib.hid hi
      clear hi
      rw [hv]
      clear hv
      go_wp2_with (go_at_call 69; refine (within_any _ _ _ _).mono ?_; (first | rw [HI.out] | rw [HJ.out]); rintro e w' ⟨rfl, rfl⟩)
      refine bodyPost_ret (v := .tuple #[.agg #[.slice A1 n c1, .slice B1 m d1], .bool false]) ?_ rfl ?_
      · simp [results, Tryz.results21, go_sem]
        go_simp
      · rw [HG.out]
        exact ⟨_, _, _, _, _, _, rfl, gis_ret I3 _ _ _ _ hz0 (by omega) (by omega), below_ret hB3 _ _ _ (by omega)⟩
    · have HI := Lib.hid hi
      have HJ := Lib.hid hj
      clear hi hj
      rw [hv]
      clear hv
      go_wp2_with (go_at_call 69; refine (within_any _ _ _ _).mono ?_; (first | rw [HI.out] | rw [HJ.out]); rintro e w' ⟨rfl, rfl⟩)
      refine bodyPost_ret (v := .tuple #[.agg #[.slice A1 n c1, .slice B1 m d1], .bool false]) ?_ rfl ?_
      · simp [results, Tryz.results21, go_sem]
        go_simp
      · rw [HG.out]
        exact ⟨_, _, _, _, _, _, rfl, gis_ret I3 _ _ _ _ hz0 (by omega) (by omega), below_ret hB3 _ _ _ (by omega)⟩
  · have HG := Lib.hid (setG_yes hok)
    obtain ⟨hv, hi, hj⟩ := and3_true (show (validG g && inB node 0 ((n : Int) - 1) && inB v 0 2) = true by rw [← HOK.out, hok])
    obtain ⟨hi1, hi2⟩ := inB_true.1 hi
    obtain ⟨k, rfl⟩ : ∃ k : Nat, node = k := ⟨node.toNat, by omega⟩
    have hkn : k < n := by omega
    have hlt : (k : Int) < n := by omega
    obtain ⟨b1, rfl, hb1a, hb1b⟩ := I3.ou.at_ (by omega)
    have hlv : (g.vs.map iv).length = n := by simpa using HLN.out
    obtain ⟨u, hu⟩ : ∃ u, (g.vs.map iv)[k]? = some u := ⟨_, List.getElem?_eq_getElem (by omega)⟩
    have hcu := I3.ou.cell hu
    have hfu := I3.ou.frz k
    have hne := own_ne I3.ou.own.row I3.ov.own.row (by decide) b1 (by simp [Value.ownBlock])
    have I4 : GIs (w3.setCell ⟨b1, k, none⟩ (iv v)) w0.heap.size w1.heap.size (some ⟨b1, 0, none⟩) n c1 B1 m d1 ((g.vs.set k v).map iv) (ecs g.es) := ⟨by rw [List.map_set]; exact I3.ou.stored k (iv v), I3.ov.far (fun q hq hqe => hne (by rw [hq, hqe])) _⟩
    have hB4 : Below w.heap.size w (w3.setCell ⟨b1, k, none⟩ (iv v)) := hB3.setCell (p := ⟨b1, k, none⟩) (by dsimp only; omega) _
    have hn1 : b1 ≠ w.heap.size + 1 := by omega
    have hn2 : b1 ≠ w1.heap.size := by omega
    have hn3 : b1 ≠ w.heap.size := by omega
    rw [hv]
    have HI := Lib.hid hi
    have HJ := Lib.hid hj
    have HL := Lib.hid hlv
    clear hi hj hv hok hlv hu hi1 hi2 hne
    unfold iv at I4 hB4
    go_wp2_with (go_at_call 69; refine (within_any _ _ _ _).mono ?_; (first | rw [HI.out] | rw [HJ.out]); rintro e w' ⟨rfl, rfl⟩)
    refine bodyPost_ret (v := .tuple #[.agg #[.slice (some ⟨b1, 0, none⟩) n c1, .slice B1 m d1], .bool true]) ?_ rfl ?_
    · simp [results, Tryz.results21, go_sem]
      go_simp
    · rw [HG.out]
      exact ⟨_, _, _, _, _, _, rfl, gis_ret I4 _ _ _ _ hz0 (by omega) (by simp; omega), below_ret hB4 _ _ _ (by omega)⟩
set_option maxRecDepth 4000 in
set_option maxHeartbeats 2000000 in
theorem specSetValue_is (w : World) {A B : Option Addr} {n c m d : Nat} {g : G} (h : GRd w A n B m g) (node v : Int) :
    Calls Tryz.prog 22 #[.agg #[.slice A n c, .slice B m d], .int .i64 node, .int .i64 v] w fun e w' => ∃ A2 n2 c2 B2 m2 d2, e = .returned (.tuple #[.agg #[.slice A2 n2 c2, .slice B2 m2 d2], .bool (setG g node v).2]) ∧ GIs w' w.heap.size w'.heap.size A2 n2 c2 B2 m2 d2 ((setG g node v).1.vs.map iv) (ecs (setG g node v).1.es) ∧ Below w.heap.size w w' := by
  have hn := h.bn
  have ln := h.gr.ln
  have hok : setOk g node v = (validG g && inB node 0 ((n : Int) - 1) && inB v 0 2) := by rw [setOk, ln]
  have HOK := Lib.hid hok
  have HLN := Lib.hid ln
  clear hok ln
  go_enter Tryz.func22, Tryz.ntmps22
  go_wp2_with fail
  have hB0 : Below w.heap.size w ((w.alloc (.cells #[.slice A n c, .slice B m d] 27)).alloc (.cells #[.slice none 0 0, .slice none 0 0] 27)) := ((Below.refl _ _).alloc (Nat.le_refl _) _).alloc (by simp) _
  have kA : ((w.alloc (.cells #[.slice A n c, .slice B m d] 27)).alloc (.cells #[.slice none 0 0, .slice none 0 0] 27)).cell? ⟨w.heap.size, 0, none⟩ = some (.slice A n c) := by go_simp
  have kB : ((w.alloc (.cells #[.slice A n c, .slice B m d] 27)).alloc (.cells #[.slice none 0 0, .slice none 0 0] 27)).cell? ⟨w.heap.size, 1, none⟩ = some (.slice B m d) := by go_simp
  have r0 : ((w.alloc (.cells #[.slice A n c, .slice B m d] 27)).alloc (.cells #[.slice none 0 0, .slice none 0 0] 27)).cell? ⟨w.heap.size + 1, 0, none⟩ = some (.slice none 0 0) := by go_simp
  have r1 : ((w.alloc (.cells #[.slice A n c, .slice B m d] 27)).alloc (.cells #[.slice none 0 0, .slice none 0 0] 27)).cell? ⟨w.heap.size + 1, 1, none⟩ = some (.slice none 0 0) := by go_simp
  have f0 : ((w.alloc (.cells #[.slice A n c, .slice B m d] 27)).alloc (.cells #[.slice none 0 0, .slice none 0 0] 27)).frozen? ⟨w.heap.size + 1, 0, none⟩ = false := by go_simp
  have f1 : ((w.alloc (.cells #[.slice A n c, .slice B m d] 27)).alloc (.cells #[.slice none 0 0, .slice none 0 0] 27)).frozen? ⟨w.heap.size + 1, 1, none⟩ = false := by go_simp
  have hz0 : w.heap.size + 1 < ((w.alloc (.cells #[.slice A n c, .slice B m d] 27)).alloc (.cells #[.slice none 0 0, .slice none 0 0] 27)).heap.size := by simp
  generalize ((w.alloc (.cells #[.slice A n c, .slice B m d] 27)).alloc (.cells #[.slice none 0 0, .slice none 0 0] 27)) = w0 at *
  refine (l3Copy_is _ (h.up hB0)).mono ?_
  rintro e w1 ⟨A1, c1, B1, d1, rfl, I1, hb1⟩
  have hB1 := below_then hB0 hb1
  have hz1 := hb1.size
  have hx0 : w.heap.size < w1.heap.size := by omega
  have kA1 := cell_keep hb1 kA
  have kB1 := cell_keep hb1 kB
  go_wp2_with fail
  have hb2 : Below w1.heap.size w1 (w1.alloc (.cells #[.slice A1 n c1, .slice B1 m d1] 27)) := (Below.refl _ _).alloc (Nat.le_refl _) _
  have hb02 := below_then hb1 hb2
  have hB2 := below_then hB1 hb2
  have I2 := I1.below hb2
  have oA : (w1.alloc (.cells #[.slice A1 n c1, .slice B1 m d1] 27)).cell? ⟨w1.heap.size, 0, none⟩ = some (.slice A1 n c1) := by go_simp
  have oB : (w1.alloc (.cells #[.slice A1 n c1, .slice B1 m d1] 27)).cell? ⟨w1.heap.size, 1, none⟩ = some (.slice B1 m d1) := by go_simp
  have hz2 : w1.heap.size < (w1.alloc (.cells #[.slice A1 n c1, .slice B1 m d1] 27)).heap.size := by simp
  have kA2 := cell_keep hb02 kA
  have kB2 := cell_keep hb02 kB
  generalize (w1.alloc (.cells #[.slice A1 n c1, .slice B1 m d1] 27)) = w2 at *
  refine (specValid_rd _ (h.up hB2)).mono ?_
  rintro e w3 ⟨rfl, hb3⟩
  have hz3 := hb3.size
  have hb03 := below_then hb02 hb3
  have hB3 := below_then hB2 hb3
  have I3 := I2.below hb3
  have kA3 := cell_keep hb3 kA2
  have kB3 := cell_keep hb3 kB2
  have oA3 := cell_keep hb3 oA
  have oB3 := cell_keep hb3 oB
  have r03 := cell_keep hb03 r0
  have r13 := cell_keep hb03 r1
  have f03 := frozen_keep hb03 r0 f0
  have f13 := frozen_keep hb03 r1 f1
  have hx1 : w.heap.size + 1 ≠ w1.heap.size := by omega
  have hx2 : w.heap.size + 1 < w3.heap.size := by omega
  clear kA kB kA1 kB1 kA2 kB2 oA oB r0 r1 f0 f1 hb1 hb2 hb3 hb02 I1 I2 hB0 hB1 hB2
  cases hok : setOk g node v
  · have HG := Lib.hid (setG_no hok)
    have hparts : validG g = false ∨ (validG g = true ∧ inB node 0 ((n : Int) - 1) = false) ∨ (validG g = true ∧ inB node 0 ((n : Int) - 1) = true ∧ inB v 0 2 = false) := and3_false (by rw [← HOK.out, hok])
    clear hok
    rcases hparts with hv | ⟨hv, hi⟩ | ⟨hv, hi, hj⟩
    · rw [hv]
      clear hv
      go_wp2_with (go_at_call 72; refine (l1In_any _ _ _ _).mono ?_; (first | rw [HI.out] | rw [HJ.out]); rintro e w' ⟨rfl, rfl⟩)
      refine bodyPost_ret (v := .tuple #[.agg #[.slice A1 n c1, .slice B1 m d1], .bool false]) ?_ rfl ?_
      · simp [results, Tryz.results22, go_sem]
        go_simp
      · rw [HG.out]
        exact ⟨_, _, _, _, _, _, rfl, gis_ret I3 _ _ _ _ hz0 (by omega) (by omega), below_ret hB3 _ _ _ (by omega)⟩
    · have HI := Lib.hid hi
      clear hi
      rw [hv]
      clear hv
      go_wp2_with (go_at_call 72; refine (l1In_any _ _ _ _).mono ?_; (first | rw [HI.out] | rw [HJ.out]); rintro e w' ⟨rfl, rfl⟩)
      refine bodyPost_ret (v := .tuple #[.agg #[.slice A1 n c1, .slice B1 m d1], .bool false]) ?_ rfl ?_
      · simp [results, Tryz.results22, go_sem]
        go_simp
      · rw [HG.out]
        exact ⟨_, _, _, _, _, _, rfl, gis_ret I3 _ _ _ _ hz0 (by omega) (by omega), below_ret hB3 _ _ _ (by omega)⟩
    · have HI := Lib.hid hi
      have HJ := Lib.hid hj
      clear hi hj
      rw [hv]
      clear hv
      go_wp2_with (go_at_call 72; refine (l1In_any _ _ _ _).mono ?_; (first | rw [HI.out] | rw [HJ.out]); rintro e w' ⟨rfl, rfl⟩)
      refine bodyPost_ret (v := .tuple #[.agg #[.slice A1 n c1, .slice B1 m d1], .bool false]) ?_ rfl ?_
      · simp [results, Tryz.results22, go_sem]
        go_simp
      · rw [HG.out]
        exact ⟨_, _, _, _, _, _, rfl, gis_ret I3 _ _ _ _ hz0 (by omega) (by omega), below_ret hB3 _ _ _ (by omega)⟩
  · have HG := Lib.hid (setG_yes hok)
    obtain ⟨hv, hi, hj⟩ := and3_true (show (validG g && inB node 0 ((n : Int) - 1) && inB v 0 2) = true by rw [← HOK.out, hok])
    obtain ⟨hi1, hi2⟩ := inB_true.1 hi
    obtain ⟨k, rfl⟩ : ∃ k : Nat, node = k := ⟨node.toNat, by omega⟩
    have hkn : k < n := by omega
    have hlt : (k : Int) < n := by omega
    obtain ⟨b1, rfl, hb1a, hb1b⟩ := I3.ou.at_ (by omega)
    have hlv : (g.vs.map iv).length = n := by simpa using HLN.out
    obtain ⟨u, hu⟩ : ∃ u, (g.vs.map iv)[k]? = some u := ⟨_, List.getElem?_eq_getElem (by omega)⟩
    have hcu := I3.ou.cell hu
    have hfu := I3.ou.frz k
    have hne := own_ne I3.ou.own.row I3.ov.own.row (by decide) b1 (by simp [Value.ownBlock])
    have I4 : GIs (w3.setCell ⟨b1, k, none⟩ (iv v)) w0.heap.size w1.heap.size (some ⟨b1, 0, none⟩) n c1 B1 m d1 ((g.vs.set k v).map iv) (ecs g.es) := ⟨by rw [List.map_set]; exact I3.ou.stored k (iv v), I3.ov.far (fun q hq hqe => hne (by rw [hq, hqe])) _⟩
    have hB4 : Below w.heap.size w (w3.setCell ⟨b1, k, none⟩ (iv v)) := hB3.setCell (p := ⟨b1, k, none⟩) (by dsimp only; omega) _
    have hn1 : b1 ≠ w.heap.size + 1 := by omega
    have hn2 : b1 ≠ w1.heap.size := by omega
    have hn3 : b1 ≠ w.heap.size := by omega
    rw [hv]
    have HI := Lib.hid hi
    have HJ := Lib.hid hj
    have HL := Lib.hid hlv
    clear hi hj hv hok hlv hu hi1 hi2 hne
    unfold iv at I4 hB4
    go_wp2_with (go_at_call 72; refine (l1In_any _ _ _ _).mono ?_; (first | rw [HI.out] | rw [HJ.out]); rintro e w' ⟨rfl, rfl⟩)
    refine bodyPost_ret (v := .tuple #[.agg #[.slice (some ⟨b1, 0, none⟩) n c1, .slice B1 m d1], .bool true]) ?_ rfl ?_
    · simp [results, Tryz.results22, go_sem]
      go_simp
    · rw [HG.out]
      exact ⟨_, _, _, _, _, _, rfl, gis_ret I4 _ _ _ _ hz0 (by omega) (by simp; omega), below_ret hB4 _ _ _ (by omega)⟩
end Go.Proofs.YtljggmgijadjaaaGreatDoor
