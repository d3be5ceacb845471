/- Histories: slices of graphs read, copied, measured, compared. -/
import Derived.Test.YtolilkbejghocaaApP
import Derived.Test.YtolilkbejghocaaEqG3
namespace Go.Proofs.Ytolilkbejghocaa
open Go.RowKit Go.ChangeShapes Go.WideShapes Go.ChangeAt Go.Deep
set_option linter.unusedVariables false
structure GV where
  A : Option Addr
  n : Nat
  c : Nat
  B : Option Addr
  m : Nat
  d : Nat
  g : G
def gvc (v : GV) : List Value := [.slice v.A v.n v.c, .slice v.B v.m v.d]
def gvcs (l : List GV) : List Value := l.flatMap gvc
theorem gvc_len (v : GV) : (gvc v).length = 2 := rfl
theorem gvcs_len (l : List GV) : (gvcs l).length = l.length * 2 := flatMap_len gvc 2 gvc_len l
theorem gvcs_snoc (l : List GV) (v : GV) : gvcs (l ++ [v]) = gvcs l ++ [.slice v.A v.n v.c, .slice v.B v.m v.d] := by simp [gvcs, gvc]
def gsOf (l : List GV) : List G := l.map GV.g
/-- A slice that reads as graphs. -/
structure HRd (w : World) (D : Option Addr) (k : Nat) (l : List GV) : Prop where
  ln : l.length = k
  rd : Reads w w.heap.size 2 D k (gvcs l)
  gr : ∀ v ∈ l, GRd w v.A v.n v.B v.m v.g
  bd : k ≤ 2000000
theorem HRd.up {W w : World} {D : Option Addr} {k : Nat} {l : List GV} (h : HRd W D k l) (hb : Below W.heap.size W w) : HRd w D k l :=
  ⟨h.ln, reads_up h.rd hb, fun v hv => (h.gr v hv).up hb, h.bd⟩
theorem gv_at {w : World} {D : Option Addr} {B k j : Nat} {l : List GV} (h : Reads w B 2 D k (gvcs l)) (hl : l.length = k) (hj : j < k) :
    ∃ b o, D = some ⟨b, o, none⟩ ∧ b < B ∧ ∃ v, l[j]? = some v ∧ w.cell? ⟨b, o + j * 2, none⟩ = some (.slice v.A v.n v.c) ∧ w.cell? ⟨b, o + j * 2 + 1, none⟩ = some (.slice v.B v.m v.d) := by
  obtain ⟨b, o, hA, hb, s, hs, hc⟩ := elem_at gvc_len (by decide) h hl hj
  exact ⟨b, o, hA, hb, s, hs, hc 0 _ rfl, hc 1 _ rfl⟩
theorem HRd.at_ {w : World} {D : Option Addr} {k j : Nat} {l : List GV} (h : HRd w D k l) (hj : j < k) :
    ∃ b o, D = some ⟨b, o, none⟩ ∧ b < w.heap.size ∧ ∃ v, l[j]? = some v ∧ w.cell? ⟨b, o + j * 2, none⟩ = some (.slice v.A v.n v.c) ∧ w.cell? ⟨b, o + j * 2 + 1, none⟩ = some (.slice v.B v.m v.d) := gv_at h.rd h.ln hj
theorem app_graph : AppTy Try.prog 39 53 (.agg #[.slice none 0 0, .slice none 0 0]) 2 48 := ⟨Try.underlying39, by kernel_rfl, rfl, by decide⟩
theorem set2_snoc {X Z : List Value} {q : Nat} {a b : Value} (hX : X.length = q * 2) (hZ : (q + 1) * 2 ≤ Z.length) : ((X ++ Z.drop (q * 2)).set (q * 2) a).set (q * 2 + 1) b = (X ++ [a, b]) ++ Z.drop ((q + 1) * 2) := by
  obtain ⟨u0, u1, h1⟩ : ∃ u0 u1, Z.drop (q * 2) = u0 :: u1 :: Z.drop ((q + 1) * 2) := by
    refine ⟨Z[q * 2]'(by omega), Z[q * 2 + 1]'(by omega), ?_⟩
    rw [List.drop_eq_getElem_cons (by omega), List.drop_eq_getElem_cons (i := q * 2 + 1) (by omega)]
    congr 3
    omega
  rw [h1, ← hX]
  simp [List.set_append_right]
theorem GIs.setB {w : World} {a b n m c d : Nat} {A B : Option Addr} {xs ys : List Value} (h : GIs w a b A n c B m d xs ys) {p : Addr} (hp : p.block < a) (u : Value) : GIs (w.setCell p u) a b A n c B m d xs ys := ⟨h.ou.setB hp u, h.ov.setB hp u⟩
/-- A graph value of the call's own. -/
def GVIs (w : World) (lo hi : Nat) (v : GV) : Prop := GIs w lo hi v.A v.n v.c v.B v.m v.d (v.g.vs.map iv) (ecs v.g.es)
/-- A slice of graphs of the call's own. -/
structure HOw (w : World) (lo : Nat) (D : Option Addr) (k c : Nat) (l : List GV) : Prop where
  row : w.ownsRow lo 53 2 (.slice D k c) k (gvcs l)
  gr : ∀ v ∈ l, GVIs w lo w.heap.size v
  bd : k ≤ 2000000
theorem HOw.hrd {w : World} {lo k c : Nat} {D : Option Addr} {l : List GV} (h : HOw w lo D k c l) : HRd w D k l :=
  ⟨by have := h.row.1; rw [gvcs_len] at this; omega, Reads.of_own h.row, fun v hv => GIs.grd (h.gr v hv), h.bd⟩
theorem HOw.setB {w : World} {lo k c : Nat} {D : Option Addr} {l : List GV} (h : HOw w lo D k c l) {p : Addr} (hp : p.block < lo) (u : Value) : HOw (w.setCell p u) lo D k c l :=
  ⟨ownsRow_setCell_below h.row hp u, fun v hv => by
    have := GIs.setB (h.gr v hv) hp u
    unfold GVIs
    rw [World.size_setCell]
    exact this, h.bd⟩
set_option maxRecDepth 4000 in
set_option maxHeartbeats 2000000 in
theorem toGraphS_is (w : World) {D : Option Addr} {k c : Nat} {l : List GV} (h : HRd w D k l) :
    Calls Try.prog 77 #[.slice D k c] w fun e w' => ∃ D2 l2, e = .returned (.slice D2 k k) ∧ HOw w' w.heap.size D2 k k l2 ∧ gsOf l2 = gsOf l ∧ Below w.heap.size w w' := by
  have hk := h.bd
  have hmk := make_eq (P := Try.prog) app_graph (by decide) k (small_of (by omega))
  have HLN := Lib.hid h.ln
  go_enter Try.func77, Try.ntmps77
  go_wp2
  clear hmk
  go_loopw [4] (fun i wr => ∃ (q : Nat) (us : List GV), q ≤ k ∧ i = .int .i64 q ∧ us.length = q ∧ gsOf us = gsOf (l.take q) ∧ wr.ownsRow w.heap.size 53 2 (.slice (some ⟨w.heap.size, 0, none⟩) k k) k (gvcs us ++ (zrow (.agg #[.slice none 0 0, .slice none 0 0]) (k * 2)).toList.drop (q * 2)) ∧ (∀ u ∈ us, GVIs wr (w.heap.size + 1) wr.heap.size u) ∧ Below w.heap.size w wr) (fun i _ => k - (intOf i).toNat)
  case atStart =>
    refine ⟨0, [], Nat.zero_le _, rfl, rfl, rfl, ?_, by simp, (Below.refl _ _).alloc (Nat.le_refl _) _⟩
    have h := own_zrow (e := 53) (size := 2) (n := k) (W := w) (.agg #[.slice none 0 0, .slice none 0 0]) (Nat.le_refl _) (small_of (by omega))
    simpa [gvcs] using h
  case round =>
    obtain ⟨q, us, hq, rfl, hul, hgs, hown, hus, hB⟩ := hrel
    have HUL := Lib.hid hul
    have HGS := Lib.hid hgs
    clear hul hgs
    have hsz : w.heap.size < wr.heap.size := (hown.lt w.heap.size rfl).2
    by_cases hlt : q < k
    · obtain ⟨b, o, rfl, had, v, hv, c0, c1⟩ := (h.up hB).at_ hlt
      have hgr := (h.up hB).gr v (List.mem_of_getElem? hv)
      obtain ⟨vA, vn, vc, vB, vm, vd, vg⟩ := v
      dsimp only at c0 c1 hgr
      have HV := Lib.hid hv
      have hlt' : (q : Int) < k := by omega
      have hk0 : (0 : Int) ≤ (q : Int) := by omega
      clear hv
      go_wp2_with fail
      refine (toGraph_rd _ hgr).mono ?_
      rintro e w1 ⟨X, Y, rfl, I1, hb1⟩
      have ho1 := own_below hown hb1 (Nat.le_refl _)
      have hB1 := below_then hB hb1
      have hs1 := hb1.size
      have f0 := ho1.frozenAt (q * 2)
      have f1 := ho1.frozenAt (q * 2 + 1)
      obtain ⟨z0, g0⟩ := own_some1 ho1 (q * 2) (by omega)
      obtain ⟨z1, g1⟩ := own_some1 ho1 (q * 2 + 1) (by omega)
      have ho2 := ((ho1.stored (q * 2) (.slice X vn vn)).1.stored (q * 2 + 1) (.slice Y vm vm)).1
      have hX : (gvcs us).length = q * 2 := by rw [gvcs_len, HUL.out]
      rw [set2_snoc hX (by rw [Array.length_toList, zrow_size]; omega)] at ho2
      have ho3 : ((w1.setCell ⟨w.heap.size, q * 2, none⟩ (.slice X vn vn)).setCell ⟨w.heap.size, q * 2 + 1, none⟩ (.slice Y vm vm)).ownsRow w.heap.size 53 2 (.slice (some ⟨w.heap.size, 0, none⟩) k k) k (gvcs (us ++ [⟨X, vn, vn, Y, vm, vm, vg⟩]) ++ (zrow (.agg #[.slice none 0 0, .slice none 0 0]) (k * 2)).toList.drop ((q + 1) * 2)) := by
        rw [gvcs_snoc]
        exact ho2
      have hB2 := (hB1.setCell (p := ⟨w.heap.size, q * 2, none⟩) (Nat.le_refl _) (.slice X vn vn)).setCell (p := ⟨w.heap.size, q * 2 + 1, none⟩) (Nat.le_refl _) (.slice Y vm vm)
      have hus2 : ∀ u ∈ us ++ [(⟨X, vn, vn, Y, vm, vm, vg⟩ : GV)], GVIs ((w1.setCell ⟨w.heap.size, q * 2, none⟩ (.slice X vn vn)).setCell ⟨w.heap.size, q * 2 + 1, none⟩ (.slice Y vm vm)) (w.heap.size + 1) ((w1.setCell ⟨w.heap.size, q * 2, none⟩ (.slice X vn vn)).setCell ⟨w.heap.size, q * 2 + 1, none⟩ (.slice Y vm vm)).heap.size u := by
        intro u hu
        rw [List.mem_append] at hu
        have hse : ((w1.setCell ⟨w.heap.size, q * 2, none⟩ (.slice X vn vn)).setCell ⟨w.heap.size, q * 2 + 1, none⟩ (.slice Y vm vm)).heap.size = w1.heap.size := by simp
        rw [hse]
        unfold GVIs
        rcases hu with hu | hu
        · exact (((hus u hu).below hb1).wide (Nat.le_refl _) hs1).setB (p := ⟨w.heap.size, q * 2, none⟩) (by dsimp only; omega) _ |>.setB (p := ⟨w.heap.size, q * 2 + 1, none⟩) (by dsimp only; omega) _
        · simp at hu
          subst hu
          exact ((I1.wide (lo := w.heap.size + 1) (by omega) (Nat.le_refl _)).setB (p := ⟨w.heap.size, q * 2, none⟩) (by dsimp only; omega) _).setB (p := ⟨w.heap.size, q * 2 + 1, none⟩) (by dsimp only; omega) _
      have HO := Lib.hid ho3
      have HU := Lib.hid hus2
      have HB := Lib.hid hB2
      clear ho3 ho2 hus2 hus hown ho1 hB hB1 hb1 hB2 I1
      go_wp2
      go_roundw
      case rel =>
        refine ⟨q + 1, us ++ [⟨X, vn, vn, Y, vm, vm, vg⟩], by omega, by go_num, by simp [HUL.out], ?_, HO.out, HU.out, HB.out⟩
        obtain ⟨h1, h2⟩ := List.getElem?_eq_some_iff.1 HV.out
        rw [List.take_succ_eq_append_getElem h1, h2]
        have := HGS.out
        unfold gsOf at this ⊢
        rw [List.map_append, List.map_append, this]
        rfl
      case measure => simp [intOf]; omega
    · obtain rfl : q = k := by omega
      have hlt' : ¬ (q : Int) < q := by omega
      have hz : (zrow (.agg #[.slice none 0 0, .slice none 0 0]) (q * 2)).toList.length = q * 2 := by rw [Array.length_toList, zrow_size]
      rw [List.drop_of_length_le (by omega), List.append_nil] at hown
      have hR : HOw wr w.heap.size (some ⟨w.heap.size, 0, none⟩) q q us := ⟨hown, fun u hu => GIs.wide (hus u hu) (by omega) (Nat.le_refl _), hk⟩
      have hgs := HGS.out
      rw [List.take_of_length_le (by have := HLN.out; omega)] at hgs
      have HG := Lib.hid hgs
      clear hz hgs hus hown
      go_wp2
      go_ret
      exact ⟨_, rfl, _, hR, HG.out, hB⟩
set_option maxRecDepth 4000 in
set_option maxHeartbeats 2000000 in
theorem toHistory_is (w : World) (s : Int) {D : Option Addr} {k c : Nat} {l : List GV} (h : HRd w D k l) :
    Calls Try.prog 23 #[.agg #[.int .i64 s, .slice D k c]] w fun e w' => ∃ D2 l2, e = .returned (.agg #[.int .i64 s, .slice D2 k k]) ∧ HRd w' D2 k l2 ∧ gsOf l2 = gsOf l ∧ Below w.heap.size w w' := by
  go_enter Try.func23, Try.ntmps23
  go_wp2_with fail
  have hB0 : Below w.heap.size w (((w.alloc (.cells #[.int .i64 s, .slice D k c] 36)).alloc (.cells #[.int .i64 0, .slice none 0 0] 41)).alloc (.cells #[.int .i64 s, .slice none 0 0] 41)) :=
    (((Below.refl _ _).alloc (Nat.le_refl _) _).alloc (by simp) _).alloc (by simp; omega) _
  have XR := (Blk.new (w.alloc (.cells #[.int .i64 s, .slice D k c] 36)) 41 #[.int .i64 0, .slice none 0 0]).alloc (.cells #[.int .i64 s, .slice none 0 0] 41)
  have XO := Blk.new ((w.alloc (.cells #[.int .i64 s, .slice D k c] 36)).alloc (.cells #[.int .i64 0, .slice none 0 0] 41)) 41 #[.int .i64 s, .slice none 0 0]
  simp only [World.size_alloc] at XR XO
  generalize (((w.alloc (.cells #[.int .i64 s, .slice D k c] 36)).alloc (.cells #[.int .i64 0, .slice none 0 0] 41)).alloc (.cells #[.int .i64 s, .slice none 0 0] 41)) = w0 at *
  have hz0 := XO.lt
  refine (toGraphS_is _ (h.up hB0)).mono ?_
  rintro e w1 ⟨D2, l2, rfl, H2, hgs, hb1⟩
  have HGS := Lib.hid hgs
  have hB1 := below_then hB0 hb1
  replace XR := XR.below hb1 XR.lt
  replace XO := XO.below hb1 XO.lt
  have hz1 := hb1.size
  have x0 : w1.cell? ⟨w.heap.size + 1 + 1, 0, none⟩ = some (.int .i64 s) := by rw [XO.cell]; rfl
  have x1 : w1.cell? ⟨w.heap.size + 1 + 1, 1, none⟩ = some (.slice none 0 0) := by rw [XO.cell]; rfl
  have xf := XO.frozen 1
  have r0 : w1.cell? ⟨w.heap.size + 1, 0, none⟩ = some (.int .i64 0) := by rw [XR.cell]; rfl
  have r1 : w1.cell? ⟨w.heap.size + 1, 1, none⟩ = some (.slice none 0 0) := by rw [XR.cell]; rfl
  have f0 := XR.frozen 0
  have f1 := XR.frozen 1
  have H3 := H2.setB (p := ⟨w.heap.size + 1 + 1, 1, none⟩) (by dsimp only; omega) (.slice D2 k k)
  have X3 := XO.set_ 1 (.slice D2 k k)
  have R3 := XR.far (p := ⟨w.heap.size + 1 + 1, 1, none⟩) (by dsimp only; omega) (.slice D2 k k)
  have hB3 := hB1.setCell (p := ⟨w.heap.size + 1 + 1, 1, none⟩) (by dsimp only; omega) (.slice D2 k k)
  have y0 : (w1.setCell ⟨w.heap.size + 1 + 1, 1, none⟩ (.slice D2 k k)).cell? ⟨w.heap.size + 1 + 1, 0, none⟩ = some (.int .i64 s) := by rw [X3.cell]; rfl
  have y1 : (w1.setCell ⟨w.heap.size + 1 + 1, 1, none⟩ (.slice D2 k k)).cell? ⟨w.heap.size + 1 + 1, 1, none⟩ = some (.slice D2 k k) := by rw [X3.cell]; rfl
  have r3 : (w1.setCell ⟨w.heap.size + 1 + 1, 1, none⟩ (.slice D2 k k)).cell? ⟨w.heap.size + 1, 0, none⟩ = some (.int .i64 0) := by rw [R3.cell]; rfl
  have r3b : (w1.setCell ⟨w.heap.size + 1 + 1, 1, none⟩ (.slice D2 k k)).cell? ⟨w.heap.size + 1, 1, none⟩ = some (.slice none 0 0) := by rw [R3.cell]; rfl
  have f3 := R3.frozen 0
  have f3b := R3.frozen 1
  clear H2 hb1 hB1 hgs r0 r1 f0 f1 X3 R3 XR XO
  obtain ⟨w3, hw3⟩ : ∃ w3, w1.setCell ⟨w.heap.size + 1 + 1, 1, none⟩ (.slice D2 k k) = w3 := ⟨_, rfl⟩
  rw [hw3] at H3 hB3 y0 y1 r3 r3b f3 f3b
  go_wp2
  have H4 := (H3.setB (p := ⟨w.heap.size + 1, 0, none⟩) (by dsimp only; omega) (.int .i64 s)).setB (p := ⟨w.heap.size + 1, 1, none⟩) (by dsimp only; omega) (.slice D2 k k)
  have hB4 := (hB3.setCell (p := ⟨w.heap.size + 1, 0, none⟩) (by dsimp only; omega) (.int .i64 s)).setCell (p := ⟨w.heap.size + 1, 1, none⟩) (by dsimp only; omega) (.slice D2 k k)
  refine bodyPost_ret (v := .agg #[.int .i64 s, .slice D2 k k]) ?_ rfl ?_
  · simp [results, Try.results23, go_sem]
    go_simp
  · exact ⟨_, _, rfl, H4.hrd, HGS.out, hB4⟩
/-- An argument's graphs, before their sizes are bounded. -/
structure HArg (w : World) (D : Option Addr) (k : Nat) (l : List GV) : Prop where
  ln : l.length = k
  rd : Reads w w.heap.size 2 D k (gvcs l)
  gr : ∀ v ∈ l, GReads w v.A v.n v.B v.m v.g ∧ v.n ≤ 9223372036854775807 ∧ v.m ≤ 9223372036854775807
  bd : k ≤ 9223372036854775807
theorem HArg.up {W w : World} {D : Option Addr} {k : Nat} {l : List GV} (h : HArg W D k l) (hb : Below W.heap.size W w) : HArg w D k l :=
  ⟨h.ln, reads_up h.rd hb, fun v hv => ⟨(h.gr v hv).1.up hb, (h.gr v hv).2⟩, h.bd⟩
set_option maxRecDepth 4000 in
set_option maxHeartbeats 2000000 in
theorem szGraphS_is (w : World) {D : Option Addr} {k c : Nat} {l : List GV} (h : HArg w D k l) (lf : Int) (h0 : 0 ≤ lf) (h1 : lf ≤ 1048576) :
    Calls Try.prog 75 #[.slice D k c, .int .i64 lf] w fun e w' => ∃ q : Int, e = .returned (.int .i64 q) ∧ (q < 0 ∨ (0 ≤ q ∧ q ≤ lf ∧ (k : Int) ≤ lf ∧ ∀ v ∈ l, (v.n : Int) + v.m ≤ lf)) ∧ Below w.heap.size w w' := by
  have hk := h.bd
  have HLN := Lib.hid h.ln
  by_cases hneg : lf - k < 0
  · go_enter Try.func75, Try.ntmps75
    go_wp2
    go_ret
    exact ⟨-1, rfl, .inl (by omega), Below.refl _ _⟩
  · have hneg' : ¬ (lf < (k : Int)) := by omega
    go_enter Try.func75, Try.ntmps75
    go_wp2
    go_loopw [1, 5] (fun lv i wr => ∃ (q : Nat) (r : Int) (z : Kept w), wr = z.W ∧ q ≤ k ∧ i = .int .i64 q ∧ lv = .int .i64 r ∧ 0 ≤ r ∧ r ≤ lf ∧ ∀ v ∈ l.take q, (v.n : Int) + v.m ≤ lf) (fun _ i _ => k - (intOf i).toNat)
    case atStart => exact ⟨0, _, ⟨w, Below.refl _ _⟩, rfl, Nat.zero_le _, rfl, rfl, by omega, by omega, by simp⟩
    case round =>
      obtain ⟨q, r, z, rfl, hq, rfl, rfl, hr0, hr1, hall⟩ := hrel
      have HA := Lib.hid hall
      clear hall
      by_cases hlt : q < k
      · obtain ⟨b, o, rfl, had, v, hv, c0, c1⟩ := gv_at h.rd HLN.out hlt
        have y0 := Kept.cell c0
        have y1 := Kept.cell c1
        have hgr := h.gr v (List.mem_of_getElem? hv)
        have HV := Lib.hid hv
        obtain ⟨vA, vn, vc, vB, vm, vd, vg⟩ := v
        dsimp only at y0 y1 hgr
        have hlt' : (q : Int) < k := by omega
        have hk0 : (0 : Int) ≤ (q : Int) := by omega
        have hsok := szG_ok3 (l := r) (n := vn) (m := vm)
        have hrg : szG r vn vm < 0 ∨ ¬ szG r vn vm < 0 := by omega
        clear hv c0 c1
        go_wp2_with fail
        refine (szGraph_any vA vB vn vc vm vd r _ hgr.2.1 hgr.2.2 hr0 (by omega)).mono ?_
        rintro e w1 ⟨rfl, hb1⟩
        obtain ⟨z1, rfl⟩ := z.of hb1
        clear hb1
        obtain ⟨p, hp⟩ : ∃ p, szG r vn vm = p := ⟨_, rfl⟩
        rw [hp] at hsok hrg ⊢
        clear hp
        have hz1 := z1.be
        rcases hrg with hn | hn
        · go_wp2
          go_ret
          exact ⟨-1, rfl, .inl (by omega), hz1⟩
        · obtain ⟨hs1, hs2, hs3⟩ := hsok hn
          clear hsok
          go_wp2
          go_roundw
          case rel =>
            refine ⟨q + 1, p, z1, rfl, by omega, by go_num, rfl, hs2, by omega, fun v hv => ?_⟩
            obtain ⟨g1, g2⟩ := List.getElem?_eq_some_iff.1 HV.out
            rw [List.take_succ_eq_append_getElem g1, g2, List.mem_append] at hv
            rcases hv with hv | hv
            · exact HA.out v hv
            · simp at hv
              subst hv
              dsimp only
              omega
          case measure => simp [intOf]; omega
      · obtain rfl : q = k := by omega
        have hlt' : ¬ (q : Int) < q := by omega
        have ha := HA.out
        rw [List.take_of_length_le (by have := HLN.out; omega)] at ha
        have HA2 := Lib.hid ha
        have hz := z.be
        clear ha
        go_wp2
        go_ret

        exact ⟨r, rfl, .inr ⟨hr0, hr1, HA2.out⟩, hz⟩
set_option maxRecDepth 4000 in
theorem szHistory_is (w : World) (s : Int) {D : Option Addr} {k c : Nat} {l : List GV} (h : HArg w D k l) (lf : Int) (h0 : 0 ≤ lf) (h1 : lf ≤ 1048576) :
    Calls Try.prog 21 #[.agg #[.int .i64 s, .slice D k c], .int .i64 lf] w fun e w' => ∃ q : Int, e = .returned (.int .i64 q) ∧ (q < 0 ∨ (0 ≤ q ∧ q ≤ lf ∧ (k : Int) ≤ lf ∧ ∀ v ∈ l, (v.n : Int) + v.m ≤ lf)) ∧ Below w.heap.size w w' := by
  go_enter Try.func21, Try.ntmps21
  go_wp2_with fail
  have hB0 : Below w.heap.size w (w.alloc (.cells #[.int .i64 s, .slice D k c] 36)) := (Below.refl _ _).alloc (Nat.le_refl _) _
  generalize (w.alloc (.cells #[.int .i64 s, .slice D k c] 36)) = w0 at *
  refine (szGraphS_is _ (h.up hB0) lf h0 h1).mono ?_
  rintro e w1 ⟨q, rfl, hq, hb1⟩
  have hB1 := below_then hB0 hb1
  by_cases hn : q < 0
  · clear hq
    go_wp2
    go_ret
    exact ⟨-1, rfl, .inl (by omega), hB1⟩
  · have HQ := Lib.hid hq
    clear hq
    go_wp2
    go_ret
    exact ⟨q, rfl, HQ.out, hB1⟩
set_option maxRecDepth 4000 in
set_option maxHeartbeats 2000000 in
theorem eqGraphS_is (w : World) {D E : Option Addr} {k c d : Nat} {l l2 : List GV} (h : HRd w D k l) (h2 : HRd w E k l2) (he : gsOf l = gsOf l2) :
    Calls Try.prog 80 #[.slice D k c, .slice E k d] w fun e w' => e = .returned (.bool true) ∧ Below w.heap.size w w' := by
  have hk := h.bd
  have HE := Lib.hid he
  have hkk : ((k : Int) != k) = false := by simp
  clear he
  go_enter Try.func80, Try.ntmps80
  go_wp2
  clear hkk
  go_loopw [5] (fun i wr => ∃ (q : Nat) (z : Kept w), wr = z.W ∧ q ≤ k ∧ i = .int .i64 q) (fun i _ => k - (intOf i).toNat)
  case atStart => exact ⟨0, ⟨w, Below.refl _ _⟩, rfl, Nat.zero_le _, rfl⟩
  case round =>
    obtain ⟨q, z, rfl, hq, rfl⟩ := hrel
    by_cases hlt : q < k
    · obtain ⟨b, o, rfl, had, v, hv, c0, c1⟩ := h.at_ hlt
      obtain ⟨b2, o2, rfl, had2, v2, hv2, d0, d1⟩ := h2.at_ hlt
      have y0 := Kept.cell c0
      have y1 := Kept.cell c1
      have y2 := Kept.cell d0
      have y3 := Kept.cell d1
      have hg := h.gr v (List.mem_of_getElem? hv)
      have hg2 := h2.gr v2 (List.mem_of_getElem? hv2)
      have hgg : v.g = v2.g := by
        have h3 : (gsOf l)[q]? = some v.g := by unfold gsOf; rw [List.getElem?_map, hv]; rfl
        have h4 : (gsOf l2)[q]? = some v2.g := by unfold gsOf; rw [List.getElem?_map, hv2]; rfl
        rw [HE.out, h4] at h3
        injection h3 with h3
        exact h3.symm
      obtain ⟨vA, vn, vc, vB, vm, vd, vg⟩ := v
      obtain ⟨uA, un, uc, uB, um, ud, ug⟩ := v2
      dsimp only at y0 y1 y2 y3 hg hg2 hgg
      subst hgg
      obtain rfl : vn = un := hg.gr.ln.symm.trans hg2.gr.ln
      obtain rfl : vm = um := hg.gr.lm.symm.trans hg2.gr.lm
      have hcall : ∀ x : Kept w, Calls Try.prog 32 #[.agg #[.slice vA vn vc, .slice vB vm vd], .agg #[.slice uA vn uc, .slice uB vm ud]] x.W fun e w' => e = .returned (.bool true) ∧ Below x.W.heap.size x.W w' := fun x =>
        eqGraph_same vA vB uA uB vn vc vm vd uc ud vg x.W (hg.gr.up x.be) (hg2.gr.up x.be) hg.bn hg.bm
      have HC := Lib.hid hcall
      have hlt' : (q : Int) < k := by omega
      have hk0 : (0 : Int) ≤ (q : Int) := by omega
      clear hv hv2 c0 c1 d0 d1 hcall hg hg2
      go_wp2_with fail
      refine wp_region_k2 (by kernel_rfl) (by kernel_rfl) ?_
      repeat (go_big_quiet_step ((go_at_call 32; exact Calls.kept (HC.out _))))
      refine wpQuiet_nil ?_
      intro _ hw'
      obtain ⟨z2, rfl⟩ := hw'
      go_wp2
      go_roundw
      case rel => exact ⟨q + 1, z2, rfl, by omega, by go_num⟩
      case measure => simp [intOf]; omega
    · obtain rfl : q = k := by omega
      have hlt' : ¬ (q : Int) < q := by omega
      have hz := z.be
      go_wp2
      go_ret
      exact ⟨rfl, hz⟩
set_option maxRecDepth 4000 in
theorem eqHistory_is (w : World) (s : Int) {D E : Option Addr} {k c d : Nat} {l l2 : List GV} (h : HRd w D k l) (h2 : HRd w E k l2) (he : gsOf l = gsOf l2) :
    Calls Try.prog 25 #[.agg #[.int .i64 s, .slice D k c], .agg #[.int .i64 s, .slice E k d]] w fun e w' => e = .returned (.bool true) ∧ Below w.heap.size w w' := by
  have hss : (s != s) = false := by simp
  go_enter Try.func25, Try.ntmps25
  go_wp2_with fail
  have hB0 : Below w.heap.size w ((w.alloc (.cells #[.int .i64 s, .slice D k c] 41)).alloc (.cells #[.int .i64 s, .slice E k d] 41)) := ((Below.refl _ _).alloc (Nat.le_refl _) _).alloc (by simp) _
  generalize ((w.alloc (.cells #[.int .i64 s, .slice D k c] 41)).alloc (.cells #[.int .i64 s, .slice E k d] 41)) = w0 at *
  refine (eqGraphS_is _ (h.up hB0) (h2.up hB0) he).mono ?_
  rintro e w1 ⟨rfl, hb1⟩
  have hB1 := below_then hB0 hb1
  go_wp2
  go_ret
  exact ⟨rfl, hB1⟩
end Go.Proofs.Ytolilkbejghocaa
