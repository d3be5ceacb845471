/- What a cursor stands through; a number below any n; a number drawn. -/
import Derived.Test.YtljggmgijadjaaaDrawN
namespace Go.Proofs.Ytljggmgijadjaaa
open Go.RowKit Go.ChangeShapes Go.WideShapes Go.ChangeAt Go.Deep
set_option linter.unusedVariables false
theorem own_snoc_i {w : World} {base n : Nat} {e : TypeId} {v x : Value} {L : List Int} (y : Int) (hx : x = iv y) (h : w.ownsRow base e 1 v (n + 1) (L.map iv ++ x.cells.toList)) : w.ownsRow base e 1 v (n + 1) ((L ++ [y]).map iv) := by
  subst hx
  rw [List.map_append]
  exact h
theorem Cur.lt {w : World} {cb : Nat} (h : Cur w cb) : cb < w.heap.size := by
  obtain ⟨A, n, c, i, hh, bs, h1, h2, h3, X, R⟩ := h
  exact X.lt
theorem own_tch {w w' : World} {base cb : Nat} {e : TypeId} {size n : Nat} {v : Value} {xs : List Value} (h : w.ownsRow base e size v n xs) (t : Tch cb (cb + 1) w w') (hb : cb < base) : w'.ownsRow base e size v n xs :=
  own_same h fun g hg => t.block g (ownBlock_some h hg).2 (by have := (ownBlock_some h hg).1; omega)
theorem Cur.tch {w w' : World} {cb lo hi : Nat} (h : Cur w cb) (t : Tch lo hi w w') (hlo : cb < lo) : Cur w' cb := by
  obtain ⟨A, n, c, i, hh, bs, h1, h2, h3, X, R⟩ := h
  exact ⟨A, n, c, i, hh, bs, h1, h2, h3, X.tch t (by omega), reads_tch R (t.wide (b := max hi (cb + 1)) (a := cb) (by omega) (by omega)) (Nat.le_refl _)⟩
theorem Cur.grown {w w' : World} {cb base n size : Nat} {e : TypeId} {v : Value} {xs : List Value} (h : Cur w cb) (hown : w.ownsRow base e size v n xs) (hb : cb < base) (hg : w.grownBy w' v.ownBlock) : Cur w' cb := by
  exact h.tch ((Tch.refl (cb + 1) w.heap.size w).grown2 hg (fun g hg' => .inl (by have := ownBlock_some hown hg'; omega))) (Nat.lt_succ_self _)
theorem Blk.far_ {w : World} {g h : Nat} {t : TypeId} {cs : Array Value} (X : Blk w g t cs) (hne : g ≠ h) (i : Nat) (u : Value) : Blk (w.setCell ⟨h, i, none⟩ u) g t cs :=
  X.tch ((Tch.refl h (h + 1) w).setCell (p := ⟨h, i, none⟩) (Nat.le_refl _) (Nat.lt_succ_self _) u) (by omega)
/-- A call's frame, where a block that was made after the start is written: it does not show. -/
theorem Tch.past {w w' : World} {cb g : Nat} (t : Tch cb (cb + 1) w w') (hg : w.heap.size ≤ g) (i : Nat) (u : Value) : Tch cb (cb + 1) w (w'.setCell ⟨g, i, none⟩ u) :=
  ⟨t.os, t.tape, t.output, by rw [World.size_setCell]; exact t.size, fun k hk hd => (Below.heap_setCell w' ⟨g, i, none⟩ u k (by dsimp only; omega)).trans (t.block k hk hd)⟩
/-- The cells of a literal of ints. -/
theorem lit_cells {w : World} {g : Nat} {t : TypeId} {xs : List Int} (X : Blk w g t (xs.map iv).toArray) : ∀ j x, xs[j]? = some x → w.cell? ⟨g, j, none⟩ = some (.int .i64 x) := fun j x hx => by
  rw [X.cell, List.getElem?_toArray, List.getElem?_map, hx]
  rfl
set_option maxRecDepth 4000 in
set_option maxHeartbeats 2000000 in
theorem l1Below_all (w : World) {cb : Nat} (hC : Cur w cb) (n : Int) (h0 : 0 < n) :
    Calls Try.prog 28 #[.pointer (some ⟨cb, 0, none⟩), .int .i64 n] w fun e w' => ∃ q : Int, e = .returned (.int .i64 q) ∧ 0 ≤ q ∧ q < n ∧ Cur w' cb ∧ Tch cb (cb + 1) w w' := by
  by_cases h1 : n ≤ 256
  · exact l1Below_any w hC n h0 h1
  · have hn0 : ¬ n ≤ 0 := by omega
    have hne : ¬ n = 0 := by omega
    go_enter Try.func28, Try.ntmps28
    go_wp2_with fail
    refine (l1Byte_any w hC).mono ?_
    rintro e w1 ⟨x, rfl, hx0, hx1, C1, t1⟩
    go_wp2_with fail
    refine (l1Byte_any w1 C1).mono ?_
    rintro e w2 ⟨y, rfl, hy0, hy1, C2, t2⟩
    go_wp2_with fail
    refine (l1Byte_any w2 C2).mono ?_
    rintro e w3 ⟨z, rfl, hz0, hz1, C3, t3⟩
    go_wp2_with fail
    refine (l1Byte_any w3 C3).mono ?_
    rintro e w4 ⟨v, rfl, hv0, hv1, C4, t4⟩
    have T := ((t1.trans t2).trans t3).trans t4
    have a1 : IntKind.i64.wrap (x * 16777216) = x * 16777216 := IntWalk.i64_in _ (by omega)
    have a2 : IntKind.i64.wrap (y * 65536) = y * 65536 := IntWalk.i64_in _ (by omega)
    have a3 : IntKind.i64.wrap (z * 256) = z * 256 := IntWalk.i64_in _ (by omega)
    have a4 : IntKind.i64.wrap (x * 16777216 + y * 65536) = x * 16777216 + y * 65536 := IntWalk.i64_in _ (by omega)
    have a5 : IntKind.i64.wrap (x * 16777216 + y * 65536 + z * 256) = x * 16777216 + y * 65536 + z * 256 := IntWalk.i64_in _ (by omega)
    have a6 : IntKind.i64.wrap (x * 16777216 + y * 65536 + z * 256 + v) = x * 16777216 + y * 65536 + z * 256 + v := IntWalk.i64_in _ (by omega)
    have hs0 : 0 ≤ x * 16777216 + y * 65536 + z * 256 + v := by omega
    have hm0 : 0 ≤ (x * 16777216 + y * 65536 + z * 256 + v) % n := Int.emod_nonneg _ hne
    have hm1 : (x * 16777216 + y * 65536 + z * 256 + v) % n < n := Int.emod_lt_of_pos _ h0
    clear t1 t2 t3 t4 C1 C2 C3
    go_wp2
    go_ret
    exact ⟨_, rfl, hm0, hm1, C4, T⟩
/-- A pick out of a literal that was laid for it. -/
theorem pick_lit (w : World) {cb : Nat} (hC : Cur w cb) (xs : List Int) (n : Nat) (hl : xs.length = n) (h0 : 0 < n) (h1 : n ≤ 256) :
    Calls Try.prog 33 #[.pointer (some ⟨cb, 0, none⟩), .slice (some ⟨w.heap.size, 0, none⟩) n n] (w.alloc (.cells (xs.map iv).toArray 3)) fun e w' => ∃ x ∈ xs, e = .returned (.int .i64 x) ∧ Cur w' cb ∧ Tch cb (cb + 1) w w' := by
  have bL : Below w.heap.size w (w.alloc (.cells (xs.map iv).toArray 3)) := (Below.refl _ _).alloc (Nat.le_refl _) _
  have hcb := hC.lt
  refine (l1PickInt_any _ (hC.below bL) hl h0 h1 (lit_cells (Blk.new w 3 _)) (by omega)).mono ?_
  rintro e w2 ⟨x, hx, rfl, C2, t2⟩
  exact ⟨x, hx, rfl, C2, (Tch.of_below bL).trans t2⟩
theorem wf_of {q : Int} (h0 : -9223372036854775808 ≤ q) (h1 : q ≤ 9223372036854775807) : (Lit.int .i64 q).wf = true := by
  have h2 : IntKind.i64.min = -9223372036854775808 := by decide
  have h3 : IntKind.i64.max = 9223372036854775807 := by decide
  simp only [Lit.wf, Bool.and_eq_true, decide_eq_true_eq]
  rw [h2, h3]
  exact ⟨h0, h1⟩
end Go.Proofs.Ytljggmgijadjaaa
