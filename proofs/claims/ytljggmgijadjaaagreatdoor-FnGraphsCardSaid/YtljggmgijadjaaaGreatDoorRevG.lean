/- ReverseGraph of both packages. -/
import Derived.Test.YtljggmgijadjaaaGreatDoorSetV
import Derived.Test.YtljggmgijadjaaaGreatDoorBaseA
namespace Go.Proofs.YtljggmgijadjaaaGreatDoor
open Go.RowKit Go.ChangeShapes Go.WideShapes Go.ChangeAt Go.Deep
set_option linter.unusedVariables false
theorem ecs_at' {L : List E} {k : Nat} {e : E} (h : L[k]? = some e) (j : Nat) (u : Value) (hj : (ec e)[j]? = some u) : (ecs L)[k * 4 + j]? = some u := flatMap_get (f := ec) (size := 4) (fun _ => rfl) h hj
theorem RIs.drew {w : World} {a b : Nat} {e : TypeId} {size n c : Nat} {A : Option Addr} {xs : List Value} (h : RIs w a b e size A n c xs) : RIs w.drew a b e size A n c xs := ⟨⟨own_drew h.own.row, h.own.top⟩, h.bd⟩
theorem GIs.drew {w : World} {a b : Nat} {n c m d : Nat} {A B : Option Addr} {xs ys : List Value} (h : GIs w a b A n c B m d xs ys) : GIs w.drew a b A n c B m d xs ys := ⟨h.ou.drew, h.ov.drew⟩
def revE (e : E) : E := ⟨e.id, e.to, e.fr, e.lb⟩
def revG (g : G) : G := ⟨g.vs, g.es.map revE⟩
theorem ecs_set_fr : ∀ (L : List E) (k : Nat) (e : E) (a : Int), L[k]? = some e → (ecs L).set (k * 4 + 1) (.int .i64 a) = ecs (L.set k ⟨e.id, a, e.to, e.lb⟩)
  | x :: L, 0, e, a, h => by
    obtain rfl : x = e := by simpa using h
    rfl
  | x :: L, k + 1, e, a, h => by
    have h2 : L[k]? = some e := by simpa using h
    rw [List.set_cons_succ, ecs_cons, ecs_cons, ← ecs_set_fr L k e a h2]
    rw [List.set_append_right _ _ (by simp [ec]; omega)]
    congr 2
    simp [ec]; omega
theorem ecs_set_to : ∀ (L : List E) (k : Nat) (e : E) (a : Int), L[k]? = some e → (ecs L).set (k * 4 + 2) (.int .i64 a) = ecs (L.set k ⟨e.id, e.fr, a, e.lb⟩)
  | x :: L, 0, e, a, h => by
    obtain rfl : x = e := by simpa using h
    rfl
  | x :: L, k + 1, e, a, h => by
    have h2 : L[k]? = some e := by simpa using h
    rw [List.set_cons_succ, ecs_cons, ecs_cons, ← ecs_set_to L k e a h2]
    rw [List.set_append_right _ _ (by simp [ec]; omega)]
    congr 2
    simp [ec]; omega
/-- One edge turned round in a row of which k are turned. -/
theorem rev_step {es : List E} {k : Nat} {e : E} (h : es[k]? = some e) :
    ((ecs ((es.map revE).take k ++ es.drop k)).set (k * 4 + 1) (.int .i64 e.to)).set (k * 4 + 2) (.int .i64 e.fr) = ecs ((es.map revE).take (k + 1) ++ es.drop (k + 1)) := by
  obtain ⟨hk, rfl⟩ := List.getElem?_eq_some_iff.1 h
  have h1 : ((es.map revE).take k ++ es.drop k)[k]? = some es[k] := by
    rw [List.getElem?_append_right (by simp; omega)]
    simp [Nat.min_eq_left (Nat.le_of_lt hk), List.getElem?_drop, List.getElem?_eq_getElem hk]
  rw [ecs_set_fr _ k _ _ h1]
  rw [ecs_set_to _ k _ _ (List.getElem?_set_self (by simp; omega)), List.set_set]
  congr 1
  exact set_take es (es.map revE) k (revE es[k]) (by simpa using hk) (by simp) (by simp)
theorem rev_at {es : List E} {k : Nat} {e : E} (h : es[k]? = some e) : ((es.map revE).take k ++ es.drop k)[k]? = some e := by
  obtain ⟨hk, rfl⟩ := List.getElem?_eq_some_iff.1 h
  rw [List.getElem?_append_right (by simp; omega)]
  simp [Nat.min_eq_left (Nat.le_of_lt hk), List.getElem?_drop, List.getElem?_eq_getElem hk]
set_option maxRecDepth 4000 in
set_option maxHeartbeats 2000000 in
theorem implReverseGraph_is (w : World) {A B : Option Addr} {n c m d : Nat} {g : G} (h : GRd w A n B m g) :
    Calls Tryz.prog 23 #[.agg #[.slice A n c, .slice B m d]] w fun e w' => ∃ A2 n2 c2 B2 m2 d2, e = .returned (.agg #[.slice A2 n2 c2, .slice B2 m2 d2]) ∧ GIs w' w.heap.size w'.heap.size A2 n2 c2 B2 m2 d2 ((revG g).vs.map iv) (ecs (revG g).es) ∧ Below w.heap.size w w' := by
  have hm := h.bm
  have HLM := Lib.hid h.gr.lm
  go_enter Tryz.func23, Tryz.ntmps23
  go_wp2_with fail
  have hB0 : Below w.heap.size w ((w.alloc (.cells #[.slice A n c, .slice B m d] 27)).alloc (.cells #[.slice none 0 0, .slice none 0 0] 27)) := ((Below.refl _ _).alloc (Nat.le_refl _) _).alloc (by simp) _
  have r0 : ((w.alloc (.cells #[.slice A n c, .slice B m d] 27)).alloc (.cells #[.slice none 0 0, .slice none 0 0] 27)).cell? ⟨w.heap.size + 1, 0, none⟩ = some (.slice none 0 0) := by go_simp
  have r1 : ((w.alloc (.cells #[.slice A n c, .slice B m d] 27)).alloc (.cells #[.slice none 0 0, .slice none 0 0] 27)).cell? ⟨w.heap.size + 1, 1, none⟩ = some (.slice none 0 0) := by go_simp
  have f0 : ((w.alloc (.cells #[.slice A n c, .slice B m d] 27)).alloc (.cells #[.slice none 0 0, .slice none 0 0] 27)).frozen? ⟨w.heap.size + 1, 0, none⟩ = false := by go_simp
  have f1 : ((w.alloc (.cells #[.slice A n c, .slice B m d] 27)).alloc (.cells #[.slice none 0 0, .slice none 0 0] 27)).frozen? ⟨w.heap.size + 1, 1, none⟩ = false := by go_simp
  have hz0 : w.heap.size + 1 < ((w.alloc (.cells #[.slice A n c, .slice B m d] 27)).alloc (.cells #[.slice none 0 0, .slice none 0 0] 27)).heap.size := by simp
  generalize ((w.alloc (.cells #[.slice A n c, .slice B m d] 27)).alloc (.cells #[.slice none 0 0, .slice none 0 0] 27)) = w0 at *
  refine (copyGraph_is _ (h.up hB0)).mono ?_
  rintro e w1 ⟨A1, c1, B1, d1, rfl, I1, hb1⟩
  have hB1 := below_then hB0 hb1
  have hz1 := hb1.size
  have hx0 : w.heap.size < w1.heap.size := by omega
  have hb2 : Below w1.heap.size w1 (w1.alloc (.cells #[.slice A1 n c1, .slice B1 m d1] 27)) := (Below.refl _ _).alloc (Nat.le_refl _) _
  have hb02 := below_then hb1 hb2
  have hB2 := below_then hB1 hb2
  have I2 := I1.below hb2
  have oA : (w1.alloc (.cells #[.slice A1 n c1, .slice B1 m d1] 27)).cell? ⟨w1.heap.size, 0, none⟩ = some (.slice A1 n c1) := by go_simp
  have oB : (w1.alloc (.cells #[.slice A1 n c1, .slice B1 m d1] 27)).cell? ⟨w1.heap.size, 1, none⟩ = some (.slice B1 m d1) := by go_simp
  have hz2 : w1.heap.size < (w1.alloc (.cells #[.slice A1 n c1, .slice B1 m d1] 27)).heap.size := by simp
  have r02 := cell_keep hb02 r0
  have r12 := cell_keep hb02 r1
  have f02 := frozen_keep hb02 r0 f0
  have f12 := frozen_keep hb02 r1 f1
  clear r0 r1 f0 f1 hb1 hb2 hb02 I1 hB0 hB1
  go_wp2_with fail
  generalize (w1.alloc (.cells #[.slice A1 n c1, .slice B1 m d1] 27)) = w2 at *
  have HE := Lib.hid (show ∀ k, k < m → ∃ e, g.es[k]? = some e from fun k hk => ⟨_, List.getElem?_eq_getElem (by have := HLM.out; omega)⟩)
  go_loopw [11] (fun i wr => ∃ k : Nat, k ≤ m ∧ i = .int .i64 k ∧ GIs wr w0.heap.size w1.heap.size A1 n c1 B1 m d1 (g.vs.map iv) (ecs ((g.es.map revE).take k ++ g.es.drop k)) ∧ Tch w0.heap.size w1.heap.size w2 wr) (fun i _ => m - (intOf i).toNat)
  case atStart => exact ⟨0, Nat.zero_le _, rfl, by simpa using I2, Tch.refl _ _ _⟩
  case round =>
    obtain ⟨k, hk, rfl, I, t⟩ := hrel
    have hzr := t.size
    have oAr := cell_tch t oA (.inr (Nat.le_refl _))
    have oBr := cell_tch t oB (.inr (Nat.le_refl _))
    by_cases hlt : k < m
    · obtain ⟨e, he⟩ := HE.out k hlt
      have HR := Lib.hid (rev_step he)
      have I' := I
      obtain ⟨b1, rfl, hb1a, hb1b⟩ := I.ov.at_ (by omega)
      have hle := rev_at he
      have c0 : wr.cell? ⟨b1, k * 4, none⟩ = some (.int .i64 e.id) := I.ov.cell (ecs_at' hle 0 (.int .i64 e.id) rfl)
      have c1 := I.ov.cell (ecs_at' hle 1 (.int .i64 e.fr) rfl)
      have c2 := I.ov.cell (ecs_at' hle 2 (.int .i64 e.to) rfl)
      have c3 := I.ov.cell (ecs_at' hle 3 (.int .i64 e.lb) rfl)
      have hf1 := I.ov.frz (k * 4 + 1)
      have hf2 := I.ov.frz (k * 4 + 2)
      have hlt' : (k : Int) < m := by omega
      have hk0 : (0 : Int) ≤ (k : Int) := by omega
      have hne : b1 ≠ wr.heap.size := by omega
      have hne2 : b1 ≠ w1.heap.size := by omega
      clear he hle
      have hb3 : Below wr.heap.size wr (wr.alloc (.cells #[.int .i64 e.id, .int .i64 e.fr, .int .i64 e.to, .int .i64 e.lb] 29)) := (Below.refl _ _).alloc (Nat.le_refl _) _
      have x1 : (wr.alloc (.cells #[.int .i64 e.id, .int .i64 e.fr, .int .i64 e.to, .int .i64 e.lb] 29)).cell? ⟨wr.heap.size, 1, none⟩ = some (.int .i64 e.fr) := by go_simp
      have x2 : (wr.alloc (.cells #[.int .i64 e.id, .int .i64 e.fr, .int .i64 e.to, .int .i64 e.lb] 29)).cell? ⟨wr.heap.size, 2, none⟩ = some (.int .i64 e.to) := by go_simp
      have I3 := I'.below hb3
      have t3 := t.alloc (.cells #[.int .i64 e.id, .int .i64 e.fr, .int .i64 e.to, .int .i64 e.lb] 29)
      have oB3 := cell_keep hb3 oBr
      have c13 := cell_keep hb3 c1
      have c23 := cell_keep hb3 c2
      have hf13 := frozen_keep hb3 c1 hf1
      have hf23 := frozen_keep hb3 c2 hf2
      go_wp2_with fail
      clear c0 c1 c2 c3 hf1 hf2 hb3 I I' oAr oBr
      generalize wr.heap.size = x at *
      generalize (wr.alloc (.cells #[.int .i64 e.id, .int .i64 e.fr, .int .i64 e.to, .int .i64 e.lb] 29)) = w3 at *
      go_region_held3 (fun w' => w'.cell? ⟨w1.heap.size, 1, none⟩ = some (.slice (some ⟨b1, 0, none⟩) m d1) ∧ w'.cell? ⟨x, 1, none⟩ = some (.int .i64 e.fr) ∧ w'.cell? ⟨x, 2, none⟩ = some (.int .i64 e.to)) (go_keep) (fail)
      all_goals
        have hne3 := own_ne I3.ov.own.row I3.ou.own.row (by decide) b1 (by simp [Value.ownBlock])
        have J : GIs (((w3.setCell ⟨b1, k * 4 + 1, none⟩ (.int .i64 e.to)).setCell ⟨b1, k * 4 + 2, none⟩ (.int .i64 e.fr)).drew) w0.heap.size w1.heap.size A1 n c1 (some ⟨b1, 0, none⟩) m d1 (g.vs.map iv) (ecs ((g.es.map revE).take (k + 1) ++ g.es.drop (k + 1))) := by
          rw [← HR.out]
          exact GIs.drew ⟨(I3.ou.far (p := ⟨b1, k * 4 + 1, none⟩) (fun q hq hqe => hne3 (by rw [hq, hqe])) _).far (p := ⟨b1, k * 4 + 2, none⟩) (fun q hq hqe => hne3 (by rw [hq, hqe])) _, (I3.ov.stored (k * 4 + 1) (.int .i64 e.to)).stored (k * 4 + 2) (.int .i64 e.fr)⟩
        have t5 := ((t3.setCell (p := ⟨b1, k * 4 + 1, none⟩) hb1a hb1b (.int .i64 e.to)).setCell (p := ⟨b1, k * 4 + 2, none⟩) hb1a hb1b (.int .i64 e.fr)).drew
        clear hne3 I3 t3 c13 c23 hf13 hf23 x1 x2 oB3
        go_wp2
        go_roundw
        case rel => exact ⟨k + 1, by omega, by go_num, J, t5⟩
        case measure => simp [intOf]; omega
    · obtain rfl : k = m := by omega
      have hI : GIs wr w0.heap.size w1.heap.size A1 n c1 B1 k d1 (g.vs.map iv) (ecs (g.es.map revE)) := by
        rw [List.take_of_length_le (by have := HLM.out; simp; omega), List.drop_of_length_le (by have := HLM.out; omega), List.append_nil] at I
        exact I
      have r0r := cell_tch t r02 (.inl hz0)
      have r1r := cell_tch t r12 (.inl hz0)
      have f0r := t.frz r02 f02 (.inl hz0)
      have f1r := t.frz r12 f12 (.inl hz0)
      have hBr := below_tch hB2 t (by omega)
      have hx1 : w.heap.size + 1 ≠ w1.heap.size := by omega
      clear I r02 r12 f02 f12 oA oB I2
      go_wp2
      refine bodyPost_ret (v := .agg #[.slice A1 n c1, .slice B1 k d1]) ?_ rfl ?_
      · simp [results, Tryz.results23, go_sem]
        go_simp
      · exact ⟨_, _, _, _, _, _, rfl, gis_ret hI _ _ _ _ hz0 (by omega) (by omega), below_ret hBr _ _ _ (by omega)⟩
/-- A row of the call's own that is grown: what lay there before it was made stands. -/
theorem own_snoc_ec {w : World} {base k : Nat} {e : TypeId} {v x : Value} {L : List E} {y : E} (hx : x = .agg #[.int .i64 y.id, .int .i64 y.fr, .int .i64 y.to, .int .i64 y.lb]) (hy : L[k]? = some y) (h : w.ownsRow base e 4 v (k + 1) (ecs (L.take k) ++ x.cells.toList)) :
    w.ownsRow base e 4 v (k + 1) (ecs (L.take (k + 1))) := by
  subst hx
  obtain ⟨hk, rfl⟩ := List.getElem?_eq_some_iff.1 hy
  rw [List.take_succ_eq_append_getElem hk, ecs_append]
  exact h
end Go.Proofs.YtljggmgijadjaaaGreatDoor
