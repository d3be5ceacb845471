/- ReverseGraph of both packages. -/
import Derived.Test.YtfigilkggjokkaaSetV
namespace Go.Proofs.Ytfigilkggjokkaa
open Go.RowKit Go.ChangeShapes Go.WideShapes Go.ChangeAt Go.Deep
set_option linter.unusedVariables false
theorem Tch.drew {lo hi : Nat} {w w' : World} (h : Tch lo hi w w') : Tch lo hi w w'.drew := ⟨h.os, h.tape, h.output, h.size, h.block⟩
theorem Tch.alloc {lo hi : Nat} {w w' : World} (h : Tch lo hi w w') (o : Obj) : Tch lo hi w (w'.alloc o) := h.trans (Tch.of_below ((Below.refl _ _).alloc (Nat.le_refl _) _))
theorem Tch.setCell {lo hi : Nat} {w w' : World} (h : Tch lo hi w w') {p : Addr} (h1 : lo ≤ p.block) (h2 : p.block < hi) (u : Value) : Tch lo hi w (w'.setCell p u) :=
  ⟨h.os, h.tape, h.output, by rw [World.size_setCell]; exact h.size, fun k hk hd => (Below.heap_setCell w' p u k (by omega)).trans (h.block k hk hd)⟩
theorem Tch.refl (lo hi : Nat) (w : World) : Tch lo hi w w := ⟨rfl, rfl, rfl, Nat.le_refl _, fun _ _ _ => rfl⟩
theorem Tch.frz {lo hi : Nat} {w w' : World} (t : Tch lo hi w w') {p : Addr} {u : Value} (h : w.cell? p = some u) (hf : w.frozen? p = false) (hd : p.block < lo ∨ hi ≤ p.block) : w'.frozen? p = false := by
  have hlt := World.block_lt_of_cell? w p h
  have hb := t.block p.block hlt hd
  rw [← hf]
  unfold World.frozen?
  rw [hb]
theorem ecs_at' {L : List E} {k : Nat} {e : E} (h : L[k]? = some e) (j : Nat) (u : Value) (hj : (ec e)[j]? = some u) : (ecs L)[k * 4 + j]? = some u := flatMap_get (f := ec) (size := 4) (fun _ => rfl) h hj
theorem RIs.drew {w : World} {a b : Nat} {e : TypeId} {size n c : Nat} {A : Option Addr} {xs : List Value} (h : RIs w a b e size A n c xs) : RIs w.drew a b e size A n c xs := ⟨⟨own_drew h.own.row, h.own.top⟩, h.bd⟩
theorem GIs.drew {w : World} {a b : Nat} {n c m d : Nat} {A B : Option Addr} {xs ys : List Value} (h : GIs w a b A n c B m d xs ys) : GIs w.drew a b A n c B m d xs ys := ⟨h.ou.drew, h.ov.drew⟩
def revE (e : E) : E := ⟨e.id, e.to, e.fr, e.lb⟩
def revG (g : G) : G := ⟨g.vs, g.es.map revE⟩
theorem ecs_set_fr : ∀ (L : List E) (k : Nat) (e : E) (a : Int), L[k]? = some e → (ecs L).set (k * 4 + 1) (.int .i64 a) = ecs (L.set k ⟨e.id, a, e.to, e.lb⟩)
  | x :: L, 0, e, a, h => by
    obtain rfl : x = e := by simpa using h
    rfl
  | x :: L, k + 1, e, a, h => by
    have h2 : L[k]? = some e := by simpa using h
    rw [List.set_cons_succ, ecs_cons, ecs_cons, ← ecs_set_fr L k e a h2]
    rw [List.set_append_right _ _ (by simp [ec]; omega)]
    congr 2
    simp [ec]; omega
theorem ecs_set_to : ∀ (L : List E) (k : Nat) (e : E) (a : Int), L[k]? = some e → (ecs L).set (k * 4 + 2) (.int .i64 a) = ecs (L.set k ⟨e.id, e.fr, a, e.lb⟩)
  | x :: L, 0, e, a, h => by
    obtain rfl : x = e := by simpa using h
    rfl
  | x :: L, k + 1, e, a, h => by
    have h2 : L[k]? = some e := by simpa using h
    rw [List.set_cons_succ, ecs_cons, ecs_cons, ← ecs_set_to L k e a h2]
    rw [List.set_append_right _ _ (by simp [ec]; omega)]
    congr 2
    simp [ec]; omega
/-- One edge turned round in a row of which k are turned. -/
theorem rev_step {es : List E} {k : Nat} {e : E} (h : es[k]? = some e) :
    ((ecs ((es.map revE).take k ++ es.drop k)).set (k * 4 + 1) (.int .i64 e.to)).set (k * 4 + 2) (.int .i64 e.fr) = ecs ((es.map revE).take (k + 1) ++ es.drop (k + 1)) := by
  obtain ⟨hk, rfl⟩ := List.getElem?_eq_some_iff.1 h
  have h1 : ((es.map revE).take k ++ es.drop k)[k]? = some es[k] := by
    rw [List.getElem?_append_right (by simp; omega)]
    simp [Nat.min_eq_left (Nat.le_of_lt hk), List.getElem?_drop, List.getElem?_eq_getElem hk]
  rw [ecs_set_fr _ k _ _ h1]
  rw [ecs_set_to _ k _ _ (List.getElem?_set_self (by simp; omega)), List.set_set]
  congr 1
  exact set_take es (es.map revE) k (revE es[k]) (by simpa using hk) (by simp) (by simp)
theorem rev_at {es : List E} {k : Nat} {e : E} (h : es[k]? = some e) : ((es.map revE).take k ++ es.drop k)[k]? = some e := by
  obtain ⟨hk, rfl⟩ := List.getElem?_eq_some_iff.1 h
  rw [List.getElem?_append_right (by simp; omega)]
  simp [Nat.min_eq_left (Nat.le_of_lt hk), List.getElem?_drop, List.getElem?_eq_getElem hk]
set_option maxRecDepth 4000 in
set_option maxHeartbeats 2000000 in
theorem implReverseGraph_is (w : World) {A B : Option Addr} {n c m d : Nat} {g : G} (h : GRd w A n B m g) :
    Calls Try.prog 69 #[.agg #[.slice A n c, .slice B m d]] w fun e w' => ∃ A2 n2 c2 B2 m2 d2, e = .returned (.agg #[.slice A2 n2 c2, .slice B2 m2 d2]) ∧ GIs w' w.heap.size w'.heap.size A2 n2 c2 B2 m2 d2 ((revG g).vs.map iv) (ecs (revG g).es) ∧ Below w.heap.size w w' := by
  have hm := h.bm
  have HLM := Lib.hid h.gr.lm
  go_enter Try.func69, Try.ntmps69
  go_wp2_with fail
  have hB0 : Below w.heap.size w ((w.alloc (.cells #[.slice A n c, .slice B m d] 45)).alloc (.cells #[.slice none 0 0, .slice none 0 0] 45)) := ((Below.refl _ _).alloc (Nat.le_refl _) _).alloc (by simp) _
  have r0 : ((w.alloc (.cells #[.slice A n c, .slice B m d] 45)).alloc (.cells #[.slice none 0 0, .slice none 0 0] 45)).cell? ⟨w.heap.size + 1, 0, none⟩ = some (.slice none 0 0) := by go_simp
  have r1 : ((w.alloc (.cells #[.slice A n c, .slice B m d] 45)).alloc (.cells #[.slice none 0 0, .slice none 0 0] 45)).cell? ⟨w.heap.size + 1, 1, none⟩ = some (.slice none 0 0) := by go_simp
  have f0 : ((w.alloc (.cells #[.slice A n c, .slice B m d] 45)).alloc (.cells #[.slice none 0 0, .slice none 0 0] 45)).frozen? ⟨w.heap.size + 1, 0, none⟩ = false := by go_simp
  have f1 : ((w.alloc (.cells #[.slice A n c, .slice B m d] 45)).alloc (.cells #[.slice none 0 0, .slice none 0 0] 45)).frozen? ⟨w.heap.size + 1, 1, none⟩ = false := by go_simp
  have hz0 : w.heap.size + 1 < ((w.alloc (.cells #[.slice A n c, .slice B m d] 45)).alloc (.cells #[.slice none 0 0, .slice none 0 0] 45)).heap.size := by simp
  generalize ((w.alloc (.cells #[.slice A n c, .slice B m d] 45)).alloc (.cells #[.slice none 0 0, .slice none 0 0] 45)) = w0 at *
  refine (copyGraph_is _ (h.up hB0)).mono ?_
  rintro e w1 ⟨A1, c1, B1, d1, rfl, I1, hb1⟩
  have hB1 := below_then hB0 hb1
  have hz1 := hb1.size
  have hx0 : w.heap.size < w1.heap.size := by omega
  have hb2 : Below w1.heap.size w1 (w1.alloc (.cells #[.slice A1 n c1, .slice B1 m d1] 45)) := (Below.refl _ _).alloc (Nat.le_refl _) _
  have hb02 := below_then hb1 hb2
  have hB2 := below_then hB1 hb2
  have I2 := I1.below hb2
  have oA : (w1.alloc (.cells #[.slice A1 n c1, .slice B1 m d1] 45)).cell? ⟨w1.heap.size, 0, none⟩ = some (.slice A1 n c1) := by go_simp
  have oB : (w1.alloc (.cells #[.slice A1 n c1, .slice B1 m d1] 45)).cell? ⟨w1.heap.size, 1, none⟩ = some (.slice B1 m d1) := by go_simp
  have hz2 : w1.heap.size < (w1.alloc (.cells #[.slice A1 n c1, .slice B1 m d1] 45)).heap.size := by simp
  have r02 := cell_keep hb02 r0
  have r12 := cell_keep hb02 r1
  have f02 := frozen_keep hb02 r0 f0
  have f12 := frozen_keep hb02 r1 f1
  clear r0 r1 f0 f1 hb1 hb2 hb02 I1 hB0 hB1
  go_wp2_with fail
  generalize (w1.alloc (.cells #[.slice A1 n c1, .slice B1 m d1] 45)) = w2 at *
  have HE := Lib.hid (show ∀ k, k < m → ∃ e, g.es[k]? = some e from fun k hk => ⟨_, List.getElem?_eq_getElem (by have := HLM.out; omega)⟩)
  go_loopw [11] (fun i wr => ∃ k : Nat, k ≤ m ∧ i = .int .i64 k ∧ GIs wr w0.heap.size w1.heap.size A1 n c1 B1 m d1 (g.vs.map iv) (ecs ((g.es.map revE).take k ++ g.es.drop k)) ∧ Tch w0.heap.size w1.heap.size w2 wr) (fun i _ => m - (intOf i).toNat)
  case atStart => exact ⟨0, Nat.zero_le _, rfl, by simpa using I2, Tch.refl _ _ _⟩
  case round =>
    obtain ⟨k, hk, rfl, I, t⟩ := hrel
    have hzr := t.size
    have oAr := cell_tch t oA (.inr (Nat.le_refl _))
    have oBr := cell_tch t oB (.inr (Nat.le_refl _))
    by_cases hlt : k < m
    · obtain ⟨e, he⟩ := HE.out k hlt
      have HR := Lib.hid (rev_step he)
      have I' := I
      obtain ⟨b1, rfl, hb1a, hb1b⟩ := I.ov.at_ (by omega)
      have hle := rev_at he
      have c0 : wr.cell? ⟨b1, k * 4, none⟩ = some (.int .i64 e.id) := I.ov.cell (ecs_at' hle 0 (.int .i64 e.id) rfl)
      have c1 := I.ov.cell (ecs_at' hle 1 (.int .i64 e.fr) rfl)
      have c2 := I.ov.cell (ecs_at' hle 2 (.int .i64 e.to) rfl)
      have c3 := I.ov.cell (ecs_at' hle 3 (.int .i64 e.lb) rfl)
      have hf1 := I.ov.frz (k * 4 + 1)
      have hf2 := I.ov.frz (k * 4 + 2)
      have hlt' : (k : Int) < m := by omega
      have hk0 : (0 : Int) ≤ (k : Int) := by omega
      have hne : b1 ≠ wr.heap.size := by omega
      have hne2 : b1 ≠ w1.heap.size := by omega
      clear he hle
      have hb3 : Below wr.heap.size wr (wr.alloc (.cells #[.int .i64 e.id, .int .i64 e.fr, .int .i64 e.to, .int .i64 e.lb] 106)) := (Below.refl _ _).alloc (Nat.le_refl _) _
      have x1 : (wr.alloc (.cells #[.int .i64 e.id, .int .i64 e.fr, .int .i64 e.to, .int .i64 e.lb] 106)).cell? ⟨wr.heap.size, 1, none⟩ = some (.int .i64 e.fr) := by go_simp
      have x2 : (wr.alloc (.cells #[.int .i64 e.id, .int .i64 e.fr, .int .i64 e.to, .int .i64 e.lb] 106)).cell? ⟨wr.heap.size, 2, none⟩ = some (.int .i64 e.to) := by go_simp
      have I3 := I'.below hb3
      have t3 := t.alloc (.cells #[.int .i64 e.id, .int .i64 e.fr, .int .i64 e.to, .int .i64 e.lb] 106)
      have oB3 := cell_keep hb3 oBr
      have c13 := cell_keep hb3 c1
      have c23 := cell_keep hb3 c2
      have hf13 := frozen_keep hb3 c1 hf1
      have hf23 := frozen_keep hb3 c2 hf2
      go_wp2_with fail
      clear c0 c1 c2 c3 hf1 hf2 hb3 I I' oAr oBr
      generalize wr.heap.size = x at *
      generalize (wr.alloc (.cells #[.int .i64 e.id, .int .i64 e.fr, .int .i64 e.to, .int .i64 e.lb] 106)) = w3 at *
      go_region_held3 (fun w' => w'.cell? ⟨w1.heap.size, 1, none⟩ = some (.slice (some ⟨b1, 0, none⟩) m d1) ∧ w'.cell? ⟨x, 1, none⟩ = some (.int .i64 e.fr) ∧ w'.cell? ⟨x, 2, none⟩ = some (.int .i64 e.to)) (go_keep) (fail)
      all_goals
        have hne3 := own_ne I3.ov.own.row I3.ou.own.row (by decide) b1 (by simp [Value.ownBlock])
        have J : GIs (((w3.setCell ⟨b1, k * 4 + 1, none⟩ (.int .i64 e.to)).setCell ⟨b1, k * 4 + 2, none⟩ (.int .i64 e.fr)).drew) w0.heap.size w1.heap.size A1 n c1 (some ⟨b1, 0, none⟩) m d1 (g.vs.map iv) (ecs ((g.es.map revE).take (k + 1) ++ g.es.drop (k + 1))) := by
          rw [← HR.out]
          exact GIs.drew ⟨(I3.ou.far (p := ⟨b1, k * 4 + 1, none⟩) (fun q hq hqe => hne3 (by rw [hq, hqe])) _).far (p := ⟨b1, k * 4 + 2, none⟩) (fun q hq hqe => hne3 (by rw [hq, hqe])) _, (I3.ov.stored (k * 4 + 1) (.int .i64 e.to)).stored (k * 4 + 2) (.int .i64 e.fr)⟩
        have t5 := ((t3.setCell (p := ⟨b1, k * 4 + 1, none⟩) hb1a hb1b (.int .i64 e.to)).setCell (p := ⟨b1, k * 4 + 2, none⟩) hb1a hb1b (.int .i64 e.fr)).drew
        clear hne3 I3 t3 c13 c23 hf13 hf23 x1 x2 oB3
        go_wp2
        go_roundw
        case rel => exact ⟨k + 1, by omega, by go_num, J, t5⟩
        case measure => simp [intOf]; omega
    · obtain rfl : k = m := by omega
      have hI : GIs wr w0.heap.size w1.heap.size A1 n c1 B1 k d1 (g.vs.map iv) (ecs (g.es.map revE)) := by
        rw [List.take_of_length_le (by have := HLM.out; simp; omega), List.drop_of_length_le (by have := HLM.out; omega), List.append_nil] at I
        exact I
      have r0r := cell_tch t r02 (.inl hz0)
      have r1r := cell_tch t r12 (.inl hz0)
      have f0r := t.frz r02 f02 (.inl hz0)
      have f1r := t.frz r12 f12 (.inl hz0)
      have hBr := below_tch hB2 t (by omega)
      have hx1 : w.heap.size + 1 ≠ w1.heap.size := by omega
      clear I r02 r12 f02 f12 oA oB I2
      go_wp2
      refine bodyPost_ret (v := .agg #[.slice A1 n c1, .slice B1 k d1]) ?_ rfl ?_
      · simp [results, Try.results69, go_sem]
        go_simp
      · exact ⟨_, _, _, _, _, _, rfl, gis_ret hI _ _ _ _ hz0 (by omega) (by omega), below_ret hBr _ _ _ (by omega)⟩
/-- A row of the call's own that is grown: what lay there before it was made stands. -/
theorem Tch.grown {lo hi base : Nat} {w w4 w5 : World} {e : TypeId} {size n : Nat} {v : Value} {xs : List Value} (t : Tch lo hi w w4) (hown : w4.ownsRow base e size v n xs) (hb : w.heap.size ≤ base) (hg : w4.grownBy w5 v.ownBlock) : Tch lo hi w w5 :=
  ⟨hg.os.trans t.os, hg.tape.trans t.tape, hg.output.trans t.output, Nat.le_trans t.size hg.size, fun k hk hd =>
    (hg.block k (Nat.lt_of_lt_of_le hk t.size) (fun hh => by have := (ownBlock_some hown hh.symm).1; omega)).trans (t.block k hk hd)⟩
theorem own_snoc_ec {w : World} {base k : Nat} {e : TypeId} {v x : Value} {L : List E} {y : E} (hx : x = .agg #[.int .i64 y.id, .int .i64 y.fr, .int .i64 y.to, .int .i64 y.lb]) (hy : L[k]? = some y) (h : w.ownsRow base e 4 v (k + 1) (ecs (L.take k) ++ x.cells.toList)) :
    w.ownsRow base e 4 v (k + 1) (ecs (L.take (k + 1))) := by
  subst hx
  obtain ⟨hk, rfl⟩ := List.getElem?_eq_some_iff.1 hy
  rw [List.take_succ_eq_append_getElem hk, ecs_append]
  exact h
set_option maxRecDepth 4000 in
set_option maxHeartbeats 2000000 in
theorem specReverseGraph_is (w : World) {A B : Option Addr} {n c m d : Nat} {g : G} (h : GRd w A n B m g) :
    Calls Try.prog 68 #[.agg #[.slice A n c, .slice B m d]] w fun e w' => ∃ A2 n2 c2 B2 m2 d2, e = .returned (.agg #[.slice A2 n2 c2, .slice B2 m2 d2]) ∧ GIs w' w.heap.size w'.heap.size A2 n2 c2 B2 m2 d2 ((revG g).vs.map iv) (ecs (revG g).es) ∧ Below w.heap.size w w' := by
  have hm := h.bm
  have hn := h.bn
  have HLM := Lib.hid h.gr.lm
  have q1 : Small (0 + n) := small_of (by omega)
  have hB0 : Below w.heap.size w (((w.alloc (.cells #[.slice A n c, .slice B m d] 45)).alloc (.cells #[.slice none 0 0, .slice none 0 0] 45)).alloc (.cells #[] 3)) := (((Below.refl _ _).alloc (Nat.le_refl _) _).alloc (by simp) _).alloc (by simp; omega) _
  have hrd := (h.ints.up hB0).rd
  have ho := own_made (w := ((w.alloc (.cells #[.slice A n c, .slice B m d] 45)).alloc (.cells #[.slice none 0 0, .slice none 0 0] 45))) (base := w.heap.size + 1 + 1) 3 1 (by simp)
  simp only [World.size_alloc] at ho
  have hle : w.heap.size + 1 + 1 ≤ (((w.alloc (.cells #[.slice A n c, .slice B m d] 45)).alloc (.cells #[.slice none 0 0, .slice none 0 0] 45)).alloc (.cells #[] 3)).heap.size := by simp
  have hz0 : w.heap.size + 1 + 1 ≤ ((w.alloc (.cells #[.slice A n c, .slice B m d] 45)).alloc (.cells #[.slice none 0 0, .slice none 0 0] 45)).heap.size := by simp
  have kA : (((w.alloc (.cells #[.slice A n c, .slice B m d] 45)).alloc (.cells #[.slice none 0 0, .slice none 0 0] 45)).alloc (.cells #[] 3)).cell? ⟨w.heap.size, 0, none⟩ = some (.slice A n c) := by go_simp
  have kB : (((w.alloc (.cells #[.slice A n c, .slice B m d] 45)).alloc (.cells #[.slice none 0 0, .slice none 0 0] 45)).alloc (.cells #[] 3)).cell? ⟨w.heap.size, 1, none⟩ = some (.slice B m d) := by go_simp
  have r0 : (((w.alloc (.cells #[.slice A n c, .slice B m d] 45)).alloc (.cells #[.slice none 0 0, .slice none 0 0] 45)).alloc (.cells #[] 3)).cell? ⟨w.heap.size + 1, 0, none⟩ = some (.slice none 0 0) := by go_simp
  have r1 : (((w.alloc (.cells #[.slice A n c, .slice B m d] 45)).alloc (.cells #[.slice none 0 0, .slice none 0 0] 45)).alloc (.cells #[] 3)).cell? ⟨w.heap.size + 1, 1, none⟩ = some (.slice none 0 0) := by go_simp
  have f0 : (((w.alloc (.cells #[.slice A n c, .slice B m d] 45)).alloc (.cells #[.slice none 0 0, .slice none 0 0] 45)).alloc (.cells #[] 3)).frozen? ⟨w.heap.size + 1, 0, none⟩ = false := by go_simp
  have f1 : (((w.alloc (.cells #[.slice A n c, .slice B m d] 45)).alloc (.cells #[.slice none 0 0, .slice none 0 0] 45)).alloc (.cells #[] 3)).frozen? ⟨w.heap.size + 1, 1, none⟩ = false := by go_simp
  have hx0 : w.heap.size + 1 < (((w.alloc (.cells #[.slice A n c, .slice B m d] 45)).alloc (.cells #[.slice none 0 0, .slice none 0 0] 45)).alloc (.cells #[] 3)).heap.size := by simp
  go_enter Try.func68, Try.ntmps68
  go_wp2_with (at_builtin; go_loud (refine fr_plain _ app_int (by decide) (w.heap.size + 1 + 1) (.tmp 6) (.tmp 8) rfl rfl _ rfl ho _ _ _ _ _ rfl hrd (iv_one _) q1 hle ?_; intro v1 w1 O1 hb1; obtain ⟨A1, C1, rfl, _⟩ := own_form O1; have hB1 := below_then hB0 hb1; have kA1 := cell_keep hb1 kA; have kB1 := cell_keep hb1 kB; have r01 := cell_keep hb1 r0; have r11 := cell_keep hb1 r1; have f01 := frozen_keep hb1 r0 f0; have f11 := frozen_keep hb1 r1 f1; have hx1 : w.heap.size + 1 < w1.heap.size := Nat.lt_of_lt_of_le hx0 hb1.size; clear kA kB r0 r1 f0 f1 ho hrd hle hb1))
  have hb2 : Below w1.heap.size w1 (w1.alloc (.cells #[.slice A1 n C1, .slice none 0 0] 45)) := (Below.refl _ _).alloc (Nat.le_refl _) _
  have hB2 := below_then hB1 hb2
  have I2 := (RIs.of O1 hn).below hb2
  have X2 : Blk (w1.alloc (.cells #[.slice A1 n C1, .slice none 0 0] 45)) w1.heap.size 45 #[.slice A1 n C1, .slice none 0 0] := Blk.new _ _ _
  have hz2 : (w1.alloc (.cells #[.slice A1 n C1, .slice none 0 0] 45)).heap.size = w1.heap.size + 1 := by simp
  have kA2 := cell_keep hb2 kA1
  have kB2 := cell_keep hb2 kB1
  have r02 := cell_keep hb2 r01
  have r12 := cell_keep hb2 r11
  have f02 := frozen_keep hb2 r01 f01
  have f12 := frozen_keep hb2 r11 f11
  have hE2 := h.edges.up hB2
  clear kA1 kB1 r01 r11 f01 f11 hb2 O1 hB0 hx0 hz0
  generalize (w1.alloc (.cells #[.slice A1 n C1, .slice none 0 0] 45)) = w2 at *
  have HZ := Lib.hid hz2
  have hz2a : w1.heap.size < w2.heap.size := by omega
  clear hz2
  obtain ⟨es', hes⟩ : ∃ l, g.es.map revE = l := ⟨_, rfl⟩
  have HES := Lib.hid hes
  have hel : es'.length = m := by rw [← hes]; simpa using HLM.out
  have HEL := Lib.hid hel
  clear hes hel
  go_loopw [4] (fun i wr => ∃ (k : Nat) (v : Value), k ≤ m ∧ i = .int .i64 k ∧ wr.ownsRow w2.heap.size 106 4 v k (ecs (es'.take k)) ∧ Blk wr w1.heap.size 45 #[.slice A1 n C1, v] ∧ Tch w1.heap.size w2.heap.size w2 wr) (fun i _ => m - (intOf i).toNat)
  case atStart => exact ⟨0, _, Nat.zero_le _, rfl, World.ownsRow_nil _ _ _ _, X2, Tch.refl _ _ _⟩
  case round =>
    obtain ⟨k, v, hk, rfl, hown, X, t⟩ := hrel
    have hzr := t.size
    have kAr := cell_tch t kA2 (.inl (by dsimp only; omega))
    have kBr := cell_tch t kB2 (.inl (by dsimp only; omega))
    have xA : wr.cell? ⟨w1.heap.size, 0, none⟩ = some (.slice A1 n C1) := by rw [X.cell]; rfl
    have xB : wr.cell? ⟨w1.heap.size, 1, none⟩ = some v := by rw [X.cell]; rfl
    have xf := X.frozen 1
    obtain ⟨B1, d1, rfl, _⟩ := own_form hown
    by_cases hlt : k < m
    · have hbelr := below_tch hB2 t (by omega)
      obtain ⟨b, o, rfl, had, e, he, c0, c1, c2, c3⟩ := edge_at (h.edges.up hbelr).rd HLM.out hlt
      have he' : es'[k]? = some (revE e) := by rw [← HES.out, List.getElem?_map, he]; rfl
      have HE := Lib.hid he'
      have hne1 : w1.heap.size ≠ wr.heap.size := by omega
      have q3 : Small (k + 1) := small_of (by omega)
      have xB3 := cell_al (.cells #[.int .i64 e.id, .int .i64 e.fr, .int .i64 e.to, .int .i64 e.lb] 106) xB
      have ho4 := (hown.alloc (.cells #[.int .i64 e.id, .int .i64 e.fr, .int .i64 e.to, .int .i64 e.lb] 106)).alloc (.cells #[.int .i64 e.id, .int .i64 e.to, .int .i64 e.fr, .int .i64 e.lb] 106)
      have hr4 := reads_new (w := (wr.alloc (.cells #[.int .i64 e.id, .int .i64 e.fr, .int .i64 e.to, .int .i64 e.lb] 106))) (e := 106) (size := 4) (m := 1) #[.int .i64 e.id, .int .i64 e.to, .int .i64 e.fr, .int .i64 e.lb] rfl
      have h14 := ecs_one [revE e]
      have X4 := (X.alloc (.cells #[.int .i64 e.id, .int .i64 e.fr, .int .i64 e.to, .int .i64 e.lb] 106)).alloc (.cells #[.int .i64 e.id, .int .i64 e.to, .int .i64 e.fr, .int .i64 e.lb] 106)
      have t4 := (t.alloc (.cells #[.int .i64 e.id, .int .i64 e.fr, .int .i64 e.to, .int .i64 e.lb] 106)).alloc (.cells #[.int .i64 e.id, .int .i64 e.to, .int .i64 e.fr, .int .i64 e.lb] 106)
      have hle4 : w2.heap.size ≤ ((wr.alloc (.cells #[.int .i64 e.id, .int .i64 e.fr, .int .i64 e.to, .int .i64 e.lb] 106)).alloc (.cells #[.int .i64 e.id, .int .i64 e.to, .int .i64 e.fr, .int .i64 e.lb] 106)).heap.size := by simp; omega
      simp only [World.size_alloc] at hr4
      clear he he'
      go_wp2_with (at_builtin; refine ap_plain _ app_edge (by decide) w2.heap.size (.tmp 24) (.tmp 34) rfl rfl _ _ _ rfl ho4 _ _ 1 1 _ rfl hr4 h14 q3 hle4 ?_; intro v5 w5 hown5 hg5 hat5; clear hat5; have t5 := t4.grown ho4 (Nat.le_refl _) hg5; have X5 := X4.grown hg5 (fun hq => by have := (ownBlock_some ho4 hq.symm).1; omega); have x5A : w5.cell? ⟨w1.heap.size, 0, none⟩ = some (.slice A1 n C1) := (by rw [X5.cell]; rfl); have x5B : w5.cell? ⟨w1.heap.size, 1, none⟩ = some (.slice B1 k d1) := (by rw [X5.cell]; rfl); have x5f := X5.frozen 1; replace hown5 := own_snoc_ec (y := revE e) rfl HE.out hown5; obtain ⟨B5, d5, rfl, _⟩ := own_form hown5; clear hg5 ho4 hr4 X4 t4 hle4)
      clear xB3 xA xB xf hown X t kAr kBr c0 c1 c2 c3 hbelr
      have X6 := X5.set_ 1 (.slice B5 (k + 1) d5)
      have t6 := t5.setCell (p := ⟨w1.heap.size, 1, none⟩) (Nat.le_refl _) hz2a (.slice B5 (k + 1) d5)
      have ho6 := ownsRow_setCell_below hown5 (a := ⟨w1.heap.size, 1, none⟩) hz2a (.slice B5 (k + 1) d5)
      clear X5 t5 hown5
      go_roundw
      case rel => exact ⟨k + 1, _, by omega, by go_num, ho6, X6, t6⟩
      case measure => simp [intOf]; omega
    · obtain rfl : k = m := by omega
      have I : RIs wr (w.heap.size + 1 + 1) w1.heap.size 3 1 A1 n C1 (g.vs.map iv) := I2.tch t (.inl (Nat.le_refl _))
      rw [List.take_of_length_le (by have := HEL.out; omega)] at hown
      have r0r := cell_tch t r02 (.inl (by dsimp only; omega))
      have r1r := cell_tch t r12 (.inl (by dsimp only; omega))
      have f0r := t.frz r02 f02 (.inl (by dsimp only; omega))
      have f1r := t.frz r12 f12 (.inl (by dsimp only; omega))
      have hBr := below_tch hB2 t (by omega)
      have hx2 : w.heap.size + 1 ≠ w1.heap.size := by omega
      have hI : GIs wr (w.heap.size + 1 + 1) wr.heap.size A1 n C1 B1 k d1 (g.vs.map iv) (ecs (g.es.map revE)) := ⟨I.wide (Nat.le_refl _) (by omega), by rw [HES.out]; exact (RIs.of hown hm).wide (by omega) (Nat.le_refl _)⟩
      clear I I2 r02 r12 f02 f12 X2 X hown t
      go_wp2
      refine bodyPost_ret (v := .agg #[.slice A1 n C1, .slice B1 k d1]) ?_ rfl ?_
      · simp [results, Try.results68, go_sem]
        go_simp
      · exact ⟨_, _, _, _, _, _, rfl, gis_ret hI _ _ _ _ (Nat.lt_succ_self _) (by omega) (Nat.le_refl _), below_ret hBr _ _ _ (by omega)⟩
end Go.Proofs.Ytfigilkggjokkaa
