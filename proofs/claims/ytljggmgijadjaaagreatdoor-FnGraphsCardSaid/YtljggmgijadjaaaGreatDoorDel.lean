/- slices.Delete of one element, over edges and over changes: a row of the call's own. -/
import Derived.Test.YtljggmgijadjaaaGreatDoorRevG
import Derived.Test.YtljggmgijadjaaaGreatDoorBaseA
import Derived.Test.YtljggmgijadjaaaGreatDoorStepsW
import Derived.Lib.SliceRun
import Derived.Laws.CopyRow
import Derived.Deep.RegionLaw
namespace Go.Proofs.YtljggmgijadjaaaGreatDoor
open Go.RowKit Go.ChangeShapes Go.WideShapes Go.ChangeAt Go.Deep
set_option linter.unusedVariables false
theorem setCells_row (g : Nat) (t : TypeId) (fr : Nat × Nat) : ∀ (vs : List Value) (i : Nat) (cur : Array Value) (w : World), w.heap[g]? = some (.cells cur t fr) → i + vs.length ≤ cur.size →
    w.setCells g i vs = w.setRow g (cur.toList.take i ++ vs ++ cur.toList.drop (i + vs.length)).toArray
  | [], i, cur, w, hg, _ => by
    simp only [World.setCells, List.append_nil, List.length_nil, Nat.add_zero, List.take_append_drop, Array.toArray_toList]
    rw [setRow_self w g cur t fr hg]
  | v :: rest, i, cur, w, hg, hl => by
    have hl' : i + (rest.length + 1) ≤ cur.size := by simpa using hl
    have ih := setCells_row g t fr rest (i + 1) (cur.setIfInBounds i v) (w.setRow g (cur.setIfInBounds i v)) (setRow_heap w g cur _ t _ hg) (by simp; omega)
    rw [World.setCells, setCell_eq_setRow w g i cur t fr v hg, ih, setRow_setRow]
    congr 2
    have e := list_seg_step cur.toList i v rest (by simp; omega)
    simpa [Array.toList_setIfInBounds] using e
theorem setCells_heap {g : Nat} {t : TypeId} {fr : Nat × Nat} {vs : List Value} {i : Nat} {cur : Array Value} {w : World} (hg : w.heap[g]? = some (.cells cur t fr)) (hl : i + vs.length ≤ cur.size) :
    (w.setCells g i vs).heap[g]? = some (.cells (cur.toList.take i ++ vs ++ cur.toList.drop (i + vs.length)).toArray t fr) := by
  rw [setCells_row g t fr vs i cur w hg hl]
  exact setRow_heap w g cur _ t fr hg
theorem setCells_tch (g lo hi : Nat) (h1 : lo ≤ g) (h2 : g < hi) : ∀ (vs : List Value) (i : Nat) (w : World), Tch lo hi w (w.setCells g i vs)
  | [], _, _ => Tch.refl _ _ _
  | v :: rest, i, w => ((Tch.refl lo hi w).setCell (p := ⟨g, i, none⟩) h1 h2 v).trans (setCells_tch g lo hi h1 h2 rest (i + 1) _)
/-- What behind element k stood one to the left; the last element cleared: the row one shorter. -/
theorem own_cut {w : World} {base g n cap size k : Nat} {e : TypeId} {xs zs : List Value} (h : w.ownsRow base e size (.slice (some ⟨g, 0, none⟩) (n + 1) cap) (n + 1) xs) (hk : k ≤ n) (hz : zs.length = size) :
    ((w.setCells g (k * size) (xs.drop ((k + 1) * size))).setCells g (n * size) zs).ownsRow base e size (.slice (some ⟨g, 0, none⟩) n cap) n (xs.take (k * size) ++ xs.drop ((k + 1) * size)) := by
  obtain ⟨hl, hr⟩ := h
  rcases hr with ⟨hv, _⟩ | ⟨g', cap', cur, hv, hb, hg, h1, h2, h3, h4⟩
  · injection hv with h1 _
    cases h1
  · injection hv with e1 e2 e3
    injection e1 with e1
    injection e1 with e1
    subst e1
    subst e3
    have m1 : k * size ≤ n * size := Nat.mul_le_mul_right _ hk
    have m2 : (n + 1) * size ≤ cap * size := Nat.mul_le_mul_right _ h1
    rw [Nat.succ_mul] at m2 hl h4
    rw [Nat.succ_mul]
    have hcl : cur.toList.length = cap * size := by simpa using h3
    have hd : (xs.drop (k * size + size)).length = n * size - k * size := by rw [List.length_drop, hl]; omega
    have g1 := setCells_heap (i := k * size) (vs := xs.drop (k * size + size)) hg (by rw [hd]; omega)
    have g2 := setCells_heap (i := n * size) (vs := zs) g1 (by simp; omega)
    refine ⟨by simp; omega, .inr ⟨g, cap, _, rfl, hb, g2, by omega, h2, by simp; omega, ?_⟩⟩
    have e0 : xs.take (k * size) = cur.toList.take (k * size) := by rw [← h4, List.take_take]; congr 1; omega
    rw [e0]
    have hlen : (cur.toList.take (k * size) ++ xs.drop (k * size + size)).length = n * size := by simp; omega
    rw [List.append_assoc, List.take_append_of_le_length (by simp; omega), List.take_take, Nat.min_self]
    rw [List.toList_toArray, List.take_append_of_le_length (by omega), ← hlen, List.take_length]
/-- clear over a row of structs. -/
theorem run_clear_wide {P : Program} (w : World) (t e ty : TypeId) (z : Value) (size : Nat) (ht : P.underlying t = some (.slice e)) (hv : ∀ w, (zeroValue e).run P w = .ok z w) (hz : z.cells.size = size) (h1 : ∀ v ∈ z.cells.toList, v.oneCell' = true) (b o n c : Nat) (hn : 0 < n)
    (hc : ∀ j, j < n * size → (w.cell? ⟨b, o + j, none⟩).isSome = true) (hf : ∀ j, j < n * size → w.frozen? ⟨b, o + j, none⟩ = false) :
    (Builtin.clear_ #[t] ty #[.slice (some ⟨b, o, none⟩) n c]).run P w = .ok (.tuple #[]) (w.setCells b o (Builtin.zeroCells z.cells n).toList) := by
  have hl : (Builtin.zeroCells z.cells n).toList.length = n * size := by simp [Builtin.zeroCells, hz]
  have hst := run_storeCells_cells (P := P) b o (Builtin.zeroCells z.cells n).toList 0 w (by rw [hl]; simpa using hc) (by rw [hl]; simpa using hf) (by
    intro v hv'
    simp only [Builtin.zeroCells, Array.toList_map, List.mem_map] at hv'
    obtain ⟨i, hi, rfl⟩ := hv'
    have hi' : i < n * z.cells.size := by simpa using hi
    have hp : 0 < z.cells.size := by
      rcases Nat.eq_zero_or_pos z.cells.size with h0 | h0
      · rw [h0] at hi'; omega
      · exact h0
    have := Nat.mod_lt i hp
    rw [getElem!_pos z.cells _ this]
    exact h1 _ (by simp))
  simp only [Nat.add_zero] at hst
  obtain ⟨m, rfl⟩ : ∃ m, n = m + 1 := ⟨n - 1, by omega⟩
  simp [Builtin.clear_, run_underlying ht, hv, hst]
theorem clearE_run (w : World) (g o n cap : Nat) (hn : 0 < n) (hc : ∀ j, j < n * 4 → (w.cell? ⟨g, o + j, none⟩).isSome = true) (hf : ∀ j, j < n * 4 → w.frozen? ⟨g, o + j, none⟩ = false) :
    ∃ zs : List Value, zs.length = n * 4 ∧ ∀ ty, (Builtin.clear_ #[25] ty #[.slice (some ⟨g, o, none⟩) n cap]).run Tryz.prog w = .ok (.tuple #[]) (w.setCells g o zs) := by
  have hz : (Value.agg #[.int .i64 0, .int .i64 0, .int .i64 0, .int .i64 0]).cells.size = 4 := by rfl
  refine ⟨_, ?_, fun ty => run_clear_wide w 25 29 ty (.agg #[.int .i64 0, .int .i64 0, .int .i64 0, .int .i64 0]) 4 Tryz.underlying25 (fun w => Tryz.zeroValue29 w) hz ?_ g o n cap hn hc hf⟩
  · simp [Builtin.zeroCells, hz]
  · intro v hv
    simp [Value.cells] at hv
    subst hv
    rfl
/-- What an append of the row's own tail, and the clearing of what is left behind, ask of the row. -/
theorem cut_facts {w : World} {g k r cap lo hi size : Nat} {e : TypeId} {xs : List Value} (h : RIs w lo hi e size (some ⟨g, 0, none⟩) (k + r + 1) cap xs) :
    k + r + 1 ≤ cap ∧ cap ≤ 9223372036854775807 ∧ (xs.drop ((k + 1) * size)).length = r * size ∧
    (∃ A : Addr, (if cap = k + 1 then some (⟨g, 0, none⟩ : Addr) else some ⟨g, (k + 1) * size, none⟩) = some A ∧ ∀ j u, (xs.drop ((k + 1) * size))[j]? = some u → w.drew.cell? (A.add j) = some u) ∧
    (∀ j, j < (xs.drop ((k + 1) * size)).length → (w.drew.cell? ⟨g, 0 + k * size + j, none⟩).isSome = true ∧ w.drew.frozen? ⟨g, 0 + k * size + j, none⟩ = false) ∧
    (∀ j, j < 1 * size → ((w.drew.setCells g (0 + k * size) (xs.drop ((k + 1) * size))).cell? ⟨g, (k + r) * size + j, none⟩).isSome = true) ∧
    (∀ j, j < 1 * size → (w.drew.setCells g (0 + k * size) (xs.drop ((k + 1) * size))).frozen? ⟨g, (k + r) * size + j, none⟩ = false) := by
  have hl := h.len
  have ho := h.own.row
  have hcap : k + r + 1 ≤ cap ∧ cap ≤ maxLen := by
    rcases ho.2 with ⟨hv, _⟩ | ⟨g', cap', cur, hv, hb, hg, h1, h2, h3, h4⟩
    · injection hv with h1 _
      cases h1
    · injection hv with e1 e2 e3
      exact ⟨by omega, by omega⟩
  have e1 : (k + r + 1) * size = k * size + r * size + size := by rw [Nat.succ_mul, Nat.add_mul]
  have e2 : (k + 1) * size = k * size + size := Nat.succ_mul _ _
  have e3 : (k + r) * size = k * size + r * size := Nat.add_mul _ _ _
  have hd : (xs.drop ((k + 1) * size)).length = r * size := by rw [List.length_drop, hl]; omega
  have hcell : ∀ j, j < (k + r + 1) * size → ∃ u, xs[j]? = some u ∧ w.drew.cell? ⟨g, j, none⟩ = some u := by
    intro j hj
    exact ⟨xs[j], List.getElem?_eq_getElem (by omega), by rw [(own_drew ho).cellAt j hj]; exact List.getElem?_eq_getElem (by omega)⟩
  have hfz : ∀ j, w.drew.frozen? ⟨g, j, none⟩ = false := fun j => (own_drew ho).frozenAt j
  refine ⟨hcap.1, by have := hcap.2; simp only [maxLen] at this; omega, hd, ?_, ?_, ?_, ?_⟩
  · by_cases hck : cap = k + 1
    · refine ⟨⟨g, 0, none⟩, by simp [hck], fun j u hu => ?_⟩
      have h0 : r = 0 := by omega
      subst h0
      have := (List.getElem?_eq_some_iff.1 hu).1
      omega
    · refine ⟨⟨g, (k + 1) * size, none⟩, by simp [hck], fun j u hu => ?_⟩
      have hj := (List.getElem?_eq_some_iff.1 hu).1
      rw [hd] at hj
      rw [List.getElem?_drop] at hu
      obtain ⟨u', h1, h2⟩ := hcell ((k + 1) * size + j) (by omega)
      rw [h1] at hu
      rw [Addr.add_lit, h2, hu]
  · intro j hj
    rw [hd] at hj
    obtain ⟨u', h1, h2⟩ := hcell (0 + k * size + j) (by omega)
    exact ⟨by rw [h2]; rfl, hfz _⟩
  · intro j hj
    obtain ⟨u', h1, h2⟩ := hcell ((k + r) * size + j) (by omega)
    rw [World.cell?_setCells_out]
    · rw [h2]; rfl
    · intro _ _
      right
      rw [hd]
      simp only
      omega
  · intro j hj
    rcases ho.2 with ⟨hv, _⟩ | ⟨g', cap', cur, hv, hb, hg, h1, h2, h3, h4⟩
    · injection hv with h1 _
      cases h1
    · injection hv with q1 q2 q3
      injection q1 with q1
      injection q1 with q1
      subst q1
      subst q3
      have m1 : (k + r + 1) * size ≤ cap * size := Nat.mul_le_mul_right _ h1
      have := setCells_heap (w := w.drew) (i := 0 + k * size) (vs := xs.drop ((k + 1) * size)) (show w.drew.heap[g]? = _ from hg) (by rw [hd]; omega)
      unfold World.frozen?
      rw [this]
      simp
set_option maxRecDepth 4000 in
set_option maxHeartbeats 2000000 in
theorem deleteE_any (w : World) {g k r cap lo hi : Nat} {xs : List Value} (h : RIs w lo hi 29 4 (some ⟨g, 0, none⟩) (k + r + 1) cap xs) (h1c : ∀ u ∈ xs, u.oneCell' = true) :
    Calls Tryz.prog 68 #[.slice (some ⟨g, 0, none⟩) (k + r + 1) cap, .int .i64 (k : Nat), .int .i64 ((k : Int) + 1)] w fun e w' =>
      e = .returned (.slice (some ⟨g, 0, none⟩) (k + r) cap) ∧ RIs w' lo hi 29 4 (some ⟨g, 0, none⟩) (k + r) cap (xs.take (k * 4) ++ xs.drop ((k + 1) * 4)) ∧ Tch g (g + 1) w w' := by
  have hn := h.bd
  obtain ⟨hc1, hc2, hd, ⟨A, hA, hsrc⟩, hsp, hcl, hfl⟩ := cut_facts h
  obtain ⟨i0, hi0, hi1⟩ : ∃ i0, Tryz.prog.info? 29 = some i0 ∧ i0.size = 4 := by
    have := app_edge.inf
    obtain ⟨i0, h1, h2⟩ := Option.map_eq_some_iff.1 this
    exact ⟨i0, h1, by injection h2 with _ h2; injection h2⟩
  have hkc : k ≤ cap := by omega
  have hkc1 : k + 1 ≤ cap := by omega
  have hkn1 : k + 1 ≤ k + r + 1 := by omega
  have hk0 : (0 : Int) ≤ (k : Int) + 1 := by omega
  have hkr : (k : Int) ≤ (k : Int) + r := by omega
  have hcr : ¬ cap = k + r := by omega
  have hcr2 : k + r ≤ cap := by omega
  obtain ⟨zs, hz, hclr⟩ := clearE_run _ g ((k + r) * 4) 1 (cap - (k + r)) (by omega) hcl hfl
  have HO := own_cut (own_drew h.own.row) (k := k) (by omega) hz
  obtain ⟨glo, ghi⟩ : lo ≤ g ∧ g < hi := by
    obtain ⟨g', e1, e2, e3⟩ := h.at_ (by omega)
    injection e1 with e1
    injection e1 with e1
    subst e1
    exact ⟨e2, e3⟩
  have HT : Tch g (g + 1) w ((w.drew.setCells g (k * 4) (xs.drop ((k + 1) * 4))).setCells g ((k + r) * 4) zs) :=
    ((Tch.refl g (g + 1) w).drew.trans (setCells_tch g g (g + 1) (Nat.le_refl _) (Nat.lt_succ_self _) _ _ _)).trans (setCells_tch g g (g + 1) (Nat.le_refl _) (Nat.lt_succ_self _) _ _ _)
  have h1d : ∀ u ∈ xs.drop ((k + 1) * 4), u.oneCell' = true := fun u hu => h1c u (List.mem_of_mem_drop hu)
  generalize hnews : xs.drop ((k + 1) * 4) = news at *
  obtain ⟨W1, hW1⟩ : ∃ W1, W1 = w.drew.setCells g (0 + k * 4) news := ⟨_, rfl⟩
  rw [← hW1] at hclr
  rw [show w.drew.setCells g (k * 4) news = W1 by rw [hW1, Nat.zero_add]] at HO HT
  have HD := Lib.hid hd
  have HS := Lib.hid hsrc
  have HP := Lib.hid hsp
  have H1 := Lib.hid h1d
  have HW := Lib.hid hW1
  have HN := Lib.hid hnews
  have hX := Lib.hid HO
  have hT := Lib.hid HT
  have hbd : k + r ≤ 2000000 := by omega
  clear hd hsrc hsp h1d hW1 hnews HO HT hcl hfl h1c hz h
  go_enter Tryz.func68, Tryz.ntmps68
  go_wp2_with fail
  go_region_law (refine step_append_room rfl (.tmp 22) (.tmp 25) 25 rfl 29 i0 4 Tryz.underlying25 hi0 hi1 g 0 k cap (by simp [Act.eval, Act.put]) A r (cap - (k + 1)) news (by simp [Act.eval, Act.put]) HD.out HS.out H1.out (by omega) HP.out ?_; rw [← HW.out])
  go_wp2
  go_ret
  exact ⟨rfl, ⟨⟨hX.out, fun q hq => by simp [Value.ownBlock] at hq; omega⟩, hbd⟩, hT.out⟩
theorem clearC_run (w : World) (g o n cap : Nat) (hn : 0 < n) (hc : ∀ j, j < n * 5 → (w.cell? ⟨g, o + j, none⟩).isSome = true) (hf : ∀ j, j < n * 5 → w.frozen? ⟨g, o + j, none⟩ = false) :
    ∃ zs : List Value, zs.length = n * 5 ∧ ∀ ty, (Builtin.clear_ #[65] ty #[.slice (some ⟨g, o, none⟩) n cap]).run Tryz.prog w = .ok (.tuple #[]) (w.setCells g o zs) := by
  have hz : (Value.agg #[.bool false, .int .i64 0, .int .i64 0, .int .i64 0, .int .i64 0]).cells.size = 5 := by rfl
  refine ⟨_, ?_, fun ty => run_clear_wide w 65 119 ty (.agg #[.bool false, .int .i64 0, .int .i64 0, .int .i64 0, .int .i64 0]) 5 Tryz.underlying65 (fun w => Tryz.zeroValue119 w) hz ?_ g o n cap hn hc hf⟩
  · simp [Builtin.zeroCells, hz]
  · intro v hv
    simp [Value.cells] at hv
    rcases hv with rfl | rfl <;> rfl
set_option maxRecDepth 4000 in
set_option maxHeartbeats 2000000 in
theorem deleteC_any (w : World) {g k r cap lo hi : Nat} {xs : List Value} (h : RIs w lo hi 119 5 (some ⟨g, 0, none⟩) (k + r + 1) cap xs) (h1c : ∀ u ∈ xs, u.oneCell' = true) :
    Calls Tryz.prog 101 #[.slice (some ⟨g, 0, none⟩) (k + r + 1) cap, .int .i64 (k : Nat), .int .i64 ((k : Int) + 1)] w fun e w' =>
      e = .returned (.slice (some ⟨g, 0, none⟩) (k + r) cap) ∧ RIs w' lo hi 119 5 (some ⟨g, 0, none⟩) (k + r) cap (xs.take (k * 5) ++ xs.drop ((k + 1) * 5)) ∧ Tch g (g + 1) w w' := by
  have hn := h.bd
  obtain ⟨hc1, hc2, hd, ⟨A, hA, hsrc⟩, hsp, hcl, hfl⟩ := cut_facts h
  obtain ⟨i0, hi0, hi1⟩ : ∃ i0, Tryz.prog.info? 119 = some i0 ∧ i0.size = 5 := by
    have := app_change.inf
    obtain ⟨i0, h1, h2⟩ := Option.map_eq_some_iff.1 this
    exact ⟨i0, h1, by injection h2 with _ h2; injection h2⟩
  have hkc : k ≤ cap := by omega
  have hkc1 : k + 1 ≤ cap := by omega
  have hkn1 : k + 1 ≤ k + r + 1 := by omega
  have hk0 : (0 : Int) ≤ (k : Int) + 1 := by omega
  have hkr : (k : Int) ≤ (k : Int) + r := by omega
  have hcr : ¬ cap = k + r := by omega
  have hcr2 : k + r ≤ cap := by omega
  obtain ⟨zs, hz, hclr⟩ := clearC_run _ g ((k + r) * 5) 1 (cap - (k + r)) (by omega) hcl hfl
  have HO := own_cut (own_drew h.own.row) (k := k) (by omega) hz
  obtain ⟨glo, ghi⟩ : lo ≤ g ∧ g < hi := by
    obtain ⟨g', e1, e2, e3⟩ := h.at_ (by omega)
    injection e1 with e1
    injection e1 with e1
    subst e1
    exact ⟨e2, e3⟩
  have HT : Tch g (g + 1) w ((w.drew.setCells g (k * 5) (xs.drop ((k + 1) * 5))).setCells g ((k + r) * 5) zs) :=
    ((Tch.refl g (g + 1) w).drew.trans (setCells_tch g g (g + 1) (Nat.le_refl _) (Nat.lt_succ_self _) _ _ _)).trans (setCells_tch g g (g + 1) (Nat.le_refl _) (Nat.lt_succ_self _) _ _ _)
  have h1d : ∀ u ∈ xs.drop ((k + 1) * 5), u.oneCell' = true := fun u hu => h1c u (List.mem_of_mem_drop hu)
  generalize hnews : xs.drop ((k + 1) * 5) = news at *
  obtain ⟨W1, hW1⟩ : ∃ W1, W1 = w.drew.setCells g (0 + k * 5) news := ⟨_, rfl⟩
  rw [← hW1] at hclr
  rw [show w.drew.setCells g (k * 5) news = W1 by rw [hW1, Nat.zero_add]] at HO HT
  have HD := Lib.hid hd
  have HS := Lib.hid hsrc
  have HP := Lib.hid hsp
  have H1 := Lib.hid h1d
  have HW := Lib.hid hW1
  have HN := Lib.hid hnews
  have hX := Lib.hid HO
  have hT := Lib.hid HT
  have hbd : k + r ≤ 2000000 := by omega
  clear hd hsrc hsp h1d hW1 hnews HO HT hcl hfl h1c hz h
  go_enter Tryz.func101, Tryz.ntmps101
  go_wp2_with fail
  go_region_law (refine step_append_room rfl (.tmp 22) (.tmp 25) 65 rfl 119 i0 5 Tryz.underlying65 hi0 hi1 g 0 k cap (by simp [Act.eval, Act.put]) A r (cap - (k + 1)) news (by simp [Act.eval, Act.put]) HD.out HS.out H1.out (by omega) HP.out ?_; rw [← HW.out])
  go_wp2
  go_ret
  exact ⟨rfl, ⟨⟨hX.out, fun q hq => by simp [Value.ownBlock] at hq; omega⟩, hbd⟩, hT.out⟩
/-- A row in another block than the one that was written. -/
theorem RIs.tch1 {w w' : World} {a b : Nat} {e : TypeId} {size n c g : Nat} {A : Option Addr} {xs : List Value} (h : RIs w a b e size A n c xs) (t : Tch g (g + 1) w w') (hne : ∀ q, (Value.slice A n c).ownBlock = some q → q ≠ g) : RIs w' a b e size A n c xs :=
  ⟨⟨own_same h.own.row fun q hq => t.block q (ownBlock_some h.own.row hq).2 (by have := hne q hq; omega), h.own.top⟩, h.bd⟩
theorem ecs_one' {L : List E} : ∀ u ∈ ecs L, u.oneCell' = true := ecs_one L
def delOk (g : G) (i : Int) : Bool := validG g && decide (ixN g.es i < g.es.length)
def delG (g : G) (i : Int) : G × Bool := if delOk g i then (⟨g.vs, g.es.take (ixN g.es i) ++ g.es.drop (ixN g.es i + 1)⟩, true) else (g, false)
theorem delG_no {g : G} {i : Int} (h : delOk g i = false) : delG g i = (g, false) := by simp [delG, h]
theorem delG_yes {g : G} {i : Int} (h : delOk g i = true) : delG g i = (⟨g.vs, g.es.take (ixN g.es i) ++ g.es.drop (ixN g.es i + 1)⟩, true) := by simp [delG, h]

theorem ecs_take : ∀ (L : List E) (k : Nat), (ecs L).take (k * 4) = ecs (L.take k)
  | [], k => by simp [ecs]
  | x :: L, 0 => by simp [ecs]
  | x :: L, k + 1 => by
    rw [List.take_succ_cons, ecs_cons, ecs_cons, ← ecs_take L k, List.take_append]
    congr 1
    · exact List.take_of_length_le (by simp [ec]; omega)
    · simp [ec]; congr 1; omega
theorem ecs_drop : ∀ (L : List E) (k : Nat), (ecs L).drop (k * 4) = ecs (L.drop k)
  | [], k => by simp [ecs]
  | x :: L, 0 => by simp
  | x :: L, k + 1 => by
    rw [List.drop_succ_cons, ecs_cons, ← ecs_drop L k, List.drop_append]
    have : (ec x).drop ((k + 1) * 4) = [] := List.drop_eq_nil_of_le (by simp [ec]; omega)
    rw [this, List.nil_append]
    simp [ec]; congr 1; omega
end Go.Proofs.YtljggmgijadjaaaGreatDoor
