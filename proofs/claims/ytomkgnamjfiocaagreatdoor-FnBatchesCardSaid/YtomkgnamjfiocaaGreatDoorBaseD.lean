/- Texts merged by program: Del, Ins, DelE, CutR, Ins2, DelS, Ins3. -/
import Derived.Test.YtomkgnamjfiocaaGreatDoorBaseC
import Derived.Test.YtomkgnamjfiocaaGreatDoorBaseA
import Derived.Lib.SliceRun
import Derived.Laws.CopyRow
import Derived.Deep.RegionLaw
import Derived.Shelf.Spec.SlicesInsertGrow
import Derived.Test.YtomkgnamjfiocaaGreatDoorBtw
import Derived.Test.YtomkgnamjfiocaaGreatDoorInvB
import Derived.Deep.DeepCutAuto
namespace Go.Proofs.YtomkgnamjfiocaaGreatDoor
open Go.RowKit Go.ChangeShapes Go.WideShapes Go.ChangeAt Go.Deep
set_option linter.unusedVariables false
theorem setCells_row (g : Nat) (t : TypeId) (fr : Nat × Nat) : ∀ (vs : List Value) (i : Nat) (cur : Array Value) (w : World), w.heap[g]? = some (.cells cur t fr) → i + vs.length ≤ cur.size →
    w.setCells g i vs = w.setRow g (cur.toList.take i ++ vs ++ cur.toList.drop (i + vs.length)).toArray
  | [], i, cur, w, hg, _ => by
    simp only [World.setCells, List.append_nil, List.length_nil, Nat.add_zero, List.take_append_drop, Array.toArray_toList]
    rw [setRow_self w g cur t fr hg]
  | v :: rest, i, cur, w, hg, hl => by
    have hl' : i + (rest.length + 1) ≤ cur.size := by simpa using hl
    have ih := setCells_row g t fr rest (i + 1) (cur.setIfInBounds i v) (w.setRow g (cur.setIfInBounds i v)) (setRow_heap w g cur _ t _ hg) (by simp; omega)
    rw [World.setCells, setCell_eq_setRow w g i cur t fr v hg, ih, setRow_setRow]
    congr 2
    have e := list_seg_step cur.toList i v rest (by simp; omega)
    simpa [Array.toList_setIfInBounds] using e
theorem setCells_heap {g : Nat} {t : TypeId} {fr : Nat × Nat} {vs : List Value} {i : Nat} {cur : Array Value} {w : World} (hg : w.heap[g]? = some (.cells cur t fr)) (hl : i + vs.length ≤ cur.size) :
    (w.setCells g i vs).heap[g]? = some (.cells (cur.toList.take i ++ vs ++ cur.toList.drop (i + vs.length)).toArray t fr) := by
  rw [setCells_row g t fr vs i cur w hg hl]
  exact setRow_heap w g cur _ t fr hg
theorem setCells_tch (g lo hi : Nat) (h1 : lo ≤ g) (h2 : g < hi) : ∀ (vs : List Value) (i : Nat) (w : World), Tch lo hi w (w.setCells g i vs)
  | [], _, _ => Tch.refl _ _ _
  | v :: rest, i, w => ((Tch.refl lo hi w).setCell (p := ⟨g, i, none⟩) h1 h2 v).trans (setCells_tch g lo hi h1 h2 rest (i + 1) _)
/-- What behind element k stood one to the left; the last element cleared: the row one shorter. -/
theorem own_cut {w : World} {base g n cap size k : Nat} {e : TypeId} {xs zs : List Value} (h : w.ownsRow base e size (.slice (some ⟨g, 0, none⟩) (n + 1) cap) (n + 1) xs) (hk : k ≤ n) (hz : zs.length = size) :
    ((w.setCells g (k * size) (xs.drop ((k + 1) * size))).setCells g (n * size) zs).ownsRow base e size (.slice (some ⟨g, 0, none⟩) n cap) n (xs.take (k * size) ++ xs.drop ((k + 1) * size)) := by
  obtain ⟨hl, hr⟩ := h
  rcases hr with ⟨hv, _⟩ | ⟨g', cap', cur, hv, hb, hg, h1, h2, h3, h4⟩
  · injection hv with h1 _
    cases h1
  · injection hv with e1 e2 e3
    injection e1 with e1
    injection e1 with e1
    subst e1
    subst e3
    have m1 : k * size ≤ n * size := Nat.mul_le_mul_right _ hk
    have m2 : (n + 1) * size ≤ cap * size := Nat.mul_le_mul_right _ h1
    rw [Nat.succ_mul] at m2 hl h4
    rw [Nat.succ_mul]
    have hcl : cur.toList.length = cap * size := by simpa using h3
    have hd : (xs.drop (k * size + size)).length = n * size - k * size := by rw [List.length_drop, hl]; omega
    have g1 := setCells_heap (i := k * size) (vs := xs.drop (k * size + size)) hg (by rw [hd]; omega)
    have g2 := setCells_heap (i := n * size) (vs := zs) g1 (by simp; omega)
    refine ⟨by simp; omega, .inr ⟨g, cap, _, rfl, hb, g2, by omega, h2, by simp; omega, ?_⟩⟩
    have e0 : xs.take (k * size) = cur.toList.take (k * size) := by rw [← h4, List.take_take]; congr 1; omega
    rw [e0]
    have hlen : (cur.toList.take (k * size) ++ xs.drop (k * size + size)).length = n * size := by simp; omega
    rw [List.append_assoc, List.take_append_of_le_length (by simp; omega), List.take_take, Nat.min_self]
    rw [List.toList_toArray, List.take_append_of_le_length (by omega), ← hlen, List.take_length]
/-- clear over a row of structs. -/
theorem run_clear_wide {P : Program} (w : World) (t e ty : TypeId) (z : Value) (size : Nat) (ht : P.underlying t = some (.slice e)) (hv : ∀ w, (zeroValue e).run P w = .ok z w) (hz : z.cells.size = size) (h1 : ∀ v ∈ z.cells.toList, v.oneCell' = true) (b o n c : Nat) (hn : 0 < n)
    (hc : ∀ j, j < n * size → (w.cell? ⟨b, o + j, none⟩).isSome = true) (hf : ∀ j, j < n * size → w.frozen? ⟨b, o + j, none⟩ = false) :
    (Builtin.clear_ #[t] ty #[.slice (some ⟨b, o, none⟩) n c]).run P w = .ok (.tuple #[]) (w.setCells b o (Builtin.zeroCells z.cells n).toList) := by
  have hl : (Builtin.zeroCells z.cells n).toList.length = n * size := by simp [Builtin.zeroCells, hz]
  have hst := run_storeCells_cells (P := P) b o (Builtin.zeroCells z.cells n).toList 0 w (by rw [hl]; simpa using hc) (by rw [hl]; simpa using hf) (by
    intro v hv'
    simp only [Builtin.zeroCells, Array.toList_map, List.mem_map] at hv'
    obtain ⟨i, hi, rfl⟩ := hv'
    have hi' : i < n * z.cells.size := by simpa using hi
    have hp : 0 < z.cells.size := by
      rcases Nat.eq_zero_or_pos z.cells.size with h0 | h0
      · rw [h0] at hi'; omega
      · exact h0
    have := Nat.mod_lt i hp
    rw [getElem!_pos z.cells _ this]
    exact h1 _ (by simp))
  simp only [Nat.add_zero] at hst
  obtain ⟨m, rfl⟩ : ∃ m, n = m + 1 := ⟨n - 1, by omega⟩
  simp [Builtin.clear_, run_underlying ht, hv, hst]
theorem clearE_run (w : World) (g o n cap : Nat) (hn : 0 < n) (hc : ∀ j, j < n * 4 → (w.cell? ⟨g, o + j, none⟩).isSome = true) (hf : ∀ j, j < n * 4 → w.frozen? ⟨g, o + j, none⟩ = false) :
    ∃ zs : List Value, zs.length = n * 4 ∧ ∀ ty, (Builtin.clear_ #[25] ty #[.slice (some ⟨g, o, none⟩) n cap]).run Tryz.prog w = .ok (.tuple #[]) (w.setCells g o zs) := by
  have hz : (Value.agg #[.int .i64 0, .int .i64 0, .int .i64 0, .int .i64 0]).cells.size = 4 := by rfl
  refine ⟨_, ?_, fun ty => run_clear_wide w 25 90 ty (.agg #[.int .i64 0, .int .i64 0, .int .i64 0, .int .i64 0]) 4 Tryz.underlying25 (fun w => Tryz.zeroValue90 w) hz ?_ g o n cap hn hc hf⟩
  · simp [Builtin.zeroCells, hz]
  · intro v hv
    simp [Value.cells] at hv
    subst hv
    rfl
/-- What an append of the row's own tail, and the clearing of what is left behind, ask of the row. -/
theorem cut_facts {w : World} {g k r cap lo hi size : Nat} {e : TypeId} {xs : List Value} (h : RIs w lo hi e size (some ⟨g, 0, none⟩) (k + r + 1) cap xs) :
    k + r + 1 ≤ cap ∧ cap ≤ 9223372036854775807 ∧ (xs.drop ((k + 1) * size)).length = r * size ∧
    (∃ A : Addr, (if cap = k + 1 then some (⟨g, 0, none⟩ : Addr) else some ⟨g, (k + 1) * size, none⟩) = some A ∧ ∀ j u, (xs.drop ((k + 1) * size))[j]? = some u → w.drew.cell? (A.add j) = some u) ∧
    (∀ j, j < (xs.drop ((k + 1) * size)).length → (w.drew.cell? ⟨g, 0 + k * size + j, none⟩).isSome = true ∧ w.drew.frozen? ⟨g, 0 + k * size + j, none⟩ = false) ∧
    (∀ j, j < 1 * size → ((w.drew.setCells g (0 + k * size) (xs.drop ((k + 1) * size))).cell? ⟨g, (k + r) * size + j, none⟩).isSome = true) ∧
    (∀ j, j < 1 * size → (w.drew.setCells g (0 + k * size) (xs.drop ((k + 1) * size))).frozen? ⟨g, (k + r) * size + j, none⟩ = false) := by
  have hl := h.len
  have ho := h.own.row
  have hcap : k + r + 1 ≤ cap ∧ cap ≤ maxLen := by
    rcases ho.2 with ⟨hv, _⟩ | ⟨g', cap', cur, hv, hb, hg, h1, h2, h3, h4⟩
    · injection hv with h1 _
      cases h1
    · injection hv with e1 e2 e3
      exact ⟨by omega, by omega⟩
  have e1 : (k + r + 1) * size = k * size + r * size + size := by rw [Nat.succ_mul, Nat.add_mul]
  have e2 : (k + 1) * size = k * size + size := Nat.succ_mul _ _
  have e3 : (k + r) * size = k * size + r * size := Nat.add_mul _ _ _
  have hd : (xs.drop ((k + 1) * size)).length = r * size := by rw [List.length_drop, hl]; omega
  have hcell : ∀ j, j < (k + r + 1) * size → ∃ u, xs[j]? = some u ∧ w.drew.cell? ⟨g, j, none⟩ = some u := by
    intro j hj
    exact ⟨xs[j], List.getElem?_eq_getElem (by omega), by rw [(own_drew ho).cellAt j hj]; exact List.getElem?_eq_getElem (by omega)⟩
  have hfz : ∀ j, w.drew.frozen? ⟨g, j, none⟩ = false := fun j => (own_drew ho).frozenAt j
  refine ⟨hcap.1, by have := hcap.2; simp only [maxLen] at this; omega, hd, ?_, ?_, ?_, ?_⟩
  · by_cases hck : cap = k + 1
    · refine ⟨⟨g, 0, none⟩, by simp [hck], fun j u hu => ?_⟩
      have h0 : r = 0 := by omega
      subst h0
      have := (List.getElem?_eq_some_iff.1 hu).1
      omega
    · refine ⟨⟨g, (k + 1) * size, none⟩, by simp [hck], fun j u hu => ?_⟩
      have hj := (List.getElem?_eq_some_iff.1 hu).1
      rw [hd] at hj
      rw [List.getElem?_drop] at hu
      obtain ⟨u', h1, h2⟩ := hcell ((k + 1) * size + j) (by omega)
      rw [h1] at hu
      rw [Addr.add_lit, h2, hu]
  · intro j hj
    rw [hd] at hj
    obtain ⟨u', h1, h2⟩ := hcell (0 + k * size + j) (by omega)
    exact ⟨by rw [h2]; rfl, hfz _⟩
  · intro j hj
    obtain ⟨u', h1, h2⟩ := hcell ((k + r) * size + j) (by omega)
    rw [World.cell?_setCells_out]
    · rw [h2]; rfl
    · intro _ _
      right
      rw [hd]
      simp only
      omega
  · intro j hj
    rcases ho.2 with ⟨hv, _⟩ | ⟨g', cap', cur, hv, hb, hg, h1, h2, h3, h4⟩
    · injection hv with h1 _
      cases h1
    · injection hv with q1 q2 q3
      injection q1 with q1
      injection q1 with q1
      subst q1
      subst q3
      have m1 : (k + r + 1) * size ≤ cap * size := Nat.mul_le_mul_right _ h1
      have := setCells_heap (w := w.drew) (i := 0 + k * size) (vs := xs.drop ((k + 1) * size)) (show w.drew.heap[g]? = _ from hg) (by rw [hd]; omega)
      unfold World.frozen?
      rw [this]
      simp
set_option maxRecDepth 4000 in
set_option maxHeartbeats 2000000 in
theorem deleteE_any (w : World) {g k r cap lo hi : Nat} {xs : List Value} (h : RIs w lo hi 90 4 (some ⟨g, 0, none⟩) (k + r + 1) cap xs) (h1c : ∀ u ∈ xs, u.oneCell' = true) :
    Calls Tryz.prog 110 #[.slice (some ⟨g, 0, none⟩) (k + r + 1) cap, .int .i64 (k : Nat), .int .i64 ((k : Int) + 1)] w fun e w' =>
      e = .returned (.slice (some ⟨g, 0, none⟩) (k + r) cap) ∧ RIs w' lo hi 90 4 (some ⟨g, 0, none⟩) (k + r) cap (xs.take (k * 4) ++ xs.drop ((k + 1) * 4)) ∧ Tch g (g + 1) w w' := by
  have hn := h.bd
  obtain ⟨hc1, hc2, hd, ⟨A, hA, hsrc⟩, hsp, hcl, hfl⟩ := cut_facts h
  obtain ⟨i0, hi0, hi1⟩ : ∃ i0, Tryz.prog.info? 90 = some i0 ∧ i0.size = 4 := by
    have := app_edge.inf
    obtain ⟨i0, h1, h2⟩ := Option.map_eq_some_iff.1 this
    exact ⟨i0, h1, by injection h2 with _ h2; injection h2⟩
  have hkc : k ≤ cap := by omega
  have hkc1 : k + 1 ≤ cap := by omega
  have hkn1 : k + 1 ≤ k + r + 1 := by omega
  have hk0 : (0 : Int) ≤ (k : Int) + 1 := by omega
  have hkr : (k : Int) ≤ (k : Int) + r := by omega
  have hcr : ¬ cap = k + r := by omega
  have hcr2 : k + r ≤ cap := by omega
  obtain ⟨zs, hz, hclr⟩ := clearE_run _ g ((k + r) * 4) 1 (cap - (k + r)) (by omega) hcl hfl
  have HO := own_cut (own_drew h.own.row) (k := k) (by omega) hz
  obtain ⟨glo, ghi⟩ : lo ≤ g ∧ g < hi := by
    obtain ⟨g', e1, e2, e3⟩ := h.at_ (by omega)
    injection e1 with e1
    injection e1 with e1
    subst e1
    exact ⟨e2, e3⟩
  have HT : Tch g (g + 1) w ((w.drew.setCells g (k * 4) (xs.drop ((k + 1) * 4))).setCells g ((k + r) * 4) zs) :=
    ((Tch.refl g (g + 1) w).drew.trans (setCells_tch g g (g + 1) (Nat.le_refl _) (Nat.lt_succ_self _) _ _ _)).trans (setCells_tch g g (g + 1) (Nat.le_refl _) (Nat.lt_succ_self _) _ _ _)
  have h1d : ∀ u ∈ xs.drop ((k + 1) * 4), u.oneCell' = true := fun u hu => h1c u (List.mem_of_mem_drop hu)
  generalize hnews : xs.drop ((k + 1) * 4) = news at *
  obtain ⟨W1, hW1⟩ : ∃ W1, W1 = w.drew.setCells g (0 + k * 4) news := ⟨_, rfl⟩
  rw [← hW1] at hclr
  rw [show w.drew.setCells g (k * 4) news = W1 by rw [hW1, Nat.zero_add]] at HO HT
  have HD := Lib.hid hd
  have HS := Lib.hid hsrc
  have HP := Lib.hid hsp
  have H1 := Lib.hid h1d
  have HW := Lib.hid hW1
  have HN := Lib.hid hnews
  have hX := Lib.hid HO
  have hT := Lib.hid HT
  have hbd : k + r ≤ 2000000 := by omega
  clear hd hsrc hsp h1d hW1 hnews HO HT hcl hfl h1c hz h
  go_enter Tryz.func110, Tryz.ntmps110
  go_wp2_with fail
  go_region_law (refine step_append_room rfl (.tmp 22) (.tmp 25) 25 rfl 90 i0 4 Tryz.underlying25 hi0 hi1 g 0 k cap (by simp [Act.eval, Act.put]) A r (cap - (k + 1)) news (by simp [Act.eval, Act.put]) HD.out HS.out H1.out (by omega) HP.out ?_; rw [← HW.out])
  go_wp2
  go_ret
  exact ⟨rfl, ⟨⟨hX.out, fun q hq => by simp [Value.ownBlock] at hq; omega⟩, hbd⟩, hT.out⟩
theorem clearC_run (w : World) (g o n cap : Nat) (hn : 0 < n) (hc : ∀ j, j < n * 5 → (w.cell? ⟨g, o + j, none⟩).isSome = true) (hf : ∀ j, j < n * 5 → w.frozen? ⟨g, o + j, none⟩ = false) :
    ∃ zs : List Value, zs.length = n * 5 ∧ ∀ ty, (Builtin.clear_ #[45] ty #[.slice (some ⟨g, o, none⟩) n cap]).run Tryz.prog w = .ok (.tuple #[]) (w.setCells g o zs) := by
  have hz : (Value.agg #[.bool false, .int .i64 0, .int .i64 0, .int .i64 0, .int .i64 0]).cells.size = 5 := by rfl
  refine ⟨_, ?_, fun ty => run_clear_wide w 45 92 ty (.agg #[.bool false, .int .i64 0, .int .i64 0, .int .i64 0, .int .i64 0]) 5 Tryz.underlying45 (fun w => Tryz.zeroValue92 w) hz ?_ g o n cap hn hc hf⟩
  · simp [Builtin.zeroCells, hz]
  · intro v hv
    simp [Value.cells] at hv
    rcases hv with rfl | rfl <;> rfl
set_option maxRecDepth 4000 in
set_option maxHeartbeats 2000000 in
theorem deleteC_any (w : World) {g k r cap lo hi : Nat} {xs : List Value} (h : RIs w lo hi 92 5 (some ⟨g, 0, none⟩) (k + r + 1) cap xs) (h1c : ∀ u ∈ xs, u.oneCell' = true) :
    Calls Tryz.prog 73 #[.slice (some ⟨g, 0, none⟩) (k + r + 1) cap, .int .i64 (k : Nat), .int .i64 ((k : Int) + 1)] w fun e w' =>
      e = .returned (.slice (some ⟨g, 0, none⟩) (k + r) cap) ∧ RIs w' lo hi 92 5 (some ⟨g, 0, none⟩) (k + r) cap (xs.take (k * 5) ++ xs.drop ((k + 1) * 5)) ∧ Tch g (g + 1) w w' := by
  have hn := h.bd
  obtain ⟨hc1, hc2, hd, ⟨A, hA, hsrc⟩, hsp, hcl, hfl⟩ := cut_facts h
  obtain ⟨i0, hi0, hi1⟩ : ∃ i0, Tryz.prog.info? 92 = some i0 ∧ i0.size = 5 := by
    have := app_change.inf
    obtain ⟨i0, h1, h2⟩ := Option.map_eq_some_iff.1 this
    exact ⟨i0, h1, by injection h2 with _ h2; injection h2⟩
  have hkc : k ≤ cap := by omega
  have hkc1 : k + 1 ≤ cap := by omega
  have hkn1 : k + 1 ≤ k + r + 1 := by omega
  have hk0 : (0 : Int) ≤ (k : Int) + 1 := by omega
  have hkr : (k : Int) ≤ (k : Int) + r := by omega
  have hcr : ¬ cap = k + r := by omega
  have hcr2 : k + r ≤ cap := by omega
  obtain ⟨zs, hz, hclr⟩ := clearC_run _ g ((k + r) * 5) 1 (cap - (k + r)) (by omega) hcl hfl
  have HO := own_cut (own_drew h.own.row) (k := k) (by omega) hz
  obtain ⟨glo, ghi⟩ : lo ≤ g ∧ g < hi := by
    obtain ⟨g', e1, e2, e3⟩ := h.at_ (by omega)
    injection e1 with e1
    injection e1 with e1
    subst e1
    exact ⟨e2, e3⟩
  have HT : Tch g (g + 1) w ((w.drew.setCells g (k * 5) (xs.drop ((k + 1) * 5))).setCells g ((k + r) * 5) zs) :=
    ((Tch.refl g (g + 1) w).drew.trans (setCells_tch g g (g + 1) (Nat.le_refl _) (Nat.lt_succ_self _) _ _ _)).trans (setCells_tch g g (g + 1) (Nat.le_refl _) (Nat.lt_succ_self _) _ _ _)
  have h1d : ∀ u ∈ xs.drop ((k + 1) * 5), u.oneCell' = true := fun u hu => h1c u (List.mem_of_mem_drop hu)
  generalize hnews : xs.drop ((k + 1) * 5) = news at *
  obtain ⟨W1, hW1⟩ : ∃ W1, W1 = w.drew.setCells g (0 + k * 5) news := ⟨_, rfl⟩
  rw [← hW1] at hclr
  rw [show w.drew.setCells g (k * 5) news = W1 by rw [hW1, Nat.zero_add]] at HO HT
  have HD := Lib.hid hd
  have HS := Lib.hid hsrc
  have HP := Lib.hid hsp
  have H1 := Lib.hid h1d
  have HW := Lib.hid hW1
  have HN := Lib.hid hnews
  have hX := Lib.hid HO
  have hT := Lib.hid HT
  have hbd : k + r ≤ 2000000 := by omega
  clear hd hsrc hsp h1d hW1 hnews HO HT hcl hfl h1c hz h
  go_enter Tryz.func73, Tryz.ntmps73
  go_wp2_with fail
  go_region_law (refine step_append_room rfl (.tmp 22) (.tmp 25) 45 rfl 92 i0 5 Tryz.underlying45 hi0 hi1 g 0 k cap (by simp [Act.eval, Act.put]) A r (cap - (k + 1)) news (by simp [Act.eval, Act.put]) HD.out HS.out H1.out (by omega) HP.out ?_; rw [← HW.out])
  go_wp2
  go_ret
  exact ⟨rfl, ⟨⟨hX.out, fun q hq => by simp [Value.ownBlock] at hq; omega⟩, hbd⟩, hT.out⟩
/-- A row in another block than the one that was written. -/
theorem RIs.tch1 {w w' : World} {a b : Nat} {e : TypeId} {size n c g : Nat} {A : Option Addr} {xs : List Value} (h : RIs w a b e size A n c xs) (t : Tch g (g + 1) w w') (hne : ∀ q, (Value.slice A n c).ownBlock = some q → q ≠ g) : RIs w' a b e size A n c xs :=
  ⟨⟨own_same h.own.row fun q hq => t.block q (ownBlock_some h.own.row hq).2 (by have := hne q hq; omega), h.own.top⟩, h.bd⟩
theorem ecs_one' {L : List E} : ∀ u ∈ ecs L, u.oneCell' = true := ecs_one L
def delOk (g : G) (i : Int) : Bool := validG g && decide (ixN g.es i < g.es.length)
def delG (g : G) (i : Int) : G × Bool := if delOk g i then (⟨g.vs, g.es.take (ixN g.es i) ++ g.es.drop (ixN g.es i + 1)⟩, true) else (g, false)
theorem delG_no {g : G} {i : Int} (h : delOk g i = false) : delG g i = (g, false) := by simp [delG, h]
theorem delG_yes {g : G} {i : Int} (h : delOk g i = true) : delG g i = (⟨g.vs, g.es.take (ixN g.es i) ++ g.es.drop (ixN g.es i + 1)⟩, true) := by simp [delG, h]

theorem ecs_take : ∀ (L : List E) (k : Nat), (ecs L).take (k * 4) = ecs (L.take k)
  | [], k => by simp [ecs]
  | x :: L, 0 => by simp [ecs]
  | x :: L, k + 1 => by
    rw [List.take_succ_cons, ecs_cons, ecs_cons, ← ecs_take L k, List.take_append]
    congr 1
    · exact List.take_of_length_le (by simp [ec]; omega)
    · simp [ec]; congr 1; omega
theorem ecs_drop : ∀ (L : List E) (k : Nat), (ecs L).drop (k * 4) = ecs (L.drop k)
  | [], k => by simp [ecs]
  | x :: L, 0 => by simp
  | x :: L, k + 1 => by
    rw [List.drop_succ_cons, ecs_cons, ← ecs_drop L k, List.drop_append]
    have : (ec x).drop ((k + 1) * 4) = [] := List.drop_eq_nil_of_le (by simp [ec]; omega)
    rw [this, List.nil_append]
    simp [ec]; congr 1; omega
end Go.Proofs.YtomkgnamjfiocaaGreatDoor
namespace Go.Proofs.YtomkgnamjfiocaaGreatDoor
open Go.RowKit Go.ChangeShapes Go.WideShapes Go.ChangeAt Go.Deep
set_option linter.unusedVariables false
/-- copy over elements of more than one cell: all is read before anything is written. -/
theorem run_copy_wide {P : Program} (w : World) (dT sT ty elem : TypeId) (b o dLen dCap : Nat) (a : Addr) (sLen sCap m size : Nat) (cs : List Value)
    (hu : P.underlying dT = some (.slice elem)) (hs : (P.info? elem).map (·.size) = some size) (hm : Nat.min sLen dLen = m) (hn : cs.length = m * size)
    (hsrc : ∀ j v, cs[j]? = some v → w.cell? (a.add j) = some v) (hc : ∀ j, j < cs.length → (w.cell? ⟨b, o + j, none⟩).isSome = true) (hf : ∀ j, j < cs.length → w.frozen? ⟨b, o + j, none⟩ = false) (h1 : ∀ v ∈ cs, v.oneCell' = true) :
    (Builtin.copy_ #[dT, sT] ty #[.slice (some ⟨b, o, none⟩) dLen dCap, .slice (some a) sLen sCap]).run P w = .ok (goInt m) (w.setCells b o cs) := by
  have hl := run_loadCells_list (P := P) w a cs hsrc
  have hst := run_storeCells_cells (P := P) b o cs 0 w (by simpa using hc) (by simpa using hf) h1
  cases hq : P.info? elem with
  | none => simp [hq] at hs
  | some i =>
    have hi : i.size = size := by simpa [hq] using hs
    rw [hn] at hl
    simp [Builtin.copy_, run_underlying hu, Builtin.lenOf, Builtin.firstCells, sizeOf, typeInfo, hq, hi, hm, hl, hst]
theorem blk_reads {w : World} {g : Nat} {t : TypeId} {vs : List Value} {n size : Nat} (h : Blk w g t vs.toArray) (hl : vs.length = n * size) : Reads w w.heap.size size (some ⟨g, 0, none⟩) n vs :=
  ⟨hl, fun _ => ⟨_, rfl, h.lt, fun j u hu => by rw [add_plain, Nat.zero_add, h.cell]; simpa using hu⟩⟩
theorem Tch.one {w w' : World} {g : Nat} (t : Tch g (g + 1) w w') : w.grownBy w' (some g) := ⟨t.os, t.tape, t.output, t.size, fun k hk hne => t.block k hk (by
  have : k ≠ g := fun e => hne (by rw [e])
  omega)⟩
/-- What stood from element k on moved one to the right, an element laid there. -/
theorem own_ins {w : World} {base g n cap size k : Nat} {e : TypeId} {xs vs : List Value} (h : w.ownsRow base e size (.slice (some ⟨g, 0, none⟩) n cap) n xs) (hk : k ≤ n) (hc : n + 1 ≤ cap) (hv : vs.length = size) :
    ((w.setCells g ((k + 1) * size) (xs.drop (k * size))).setCells g (k * size) vs).ownsRow base e size (.slice (some ⟨g, 0, none⟩) (n + 1) cap) (n + 1) (xs.take (k * size) ++ vs ++ xs.drop (k * size)) := by
  obtain ⟨hl, hr⟩ := h
  rcases hr with ⟨hv, _⟩ | ⟨g', cap', cur, hvv, hb, hg, h1, h2, h3, h4⟩
  · injection hv with h1 _
    cases h1
  · injection hvv with e1 e2 e3
    injection e1 with e1
    injection e1 with e1
    subst e1
    subst e3
    have m1 : k * size ≤ n * size := Nat.mul_le_mul_right _ hk
    have m2 : (n + 1) * size ≤ cap * size := Nat.mul_le_mul_right _ hc
    rw [Nat.succ_mul] at m2
    rw [Nat.succ_mul]
    have hcl : cur.toList.length = cap * size := by simpa using h3
    have hd : (xs.drop (k * size)).length = n * size - k * size := by rw [List.length_drop, hl]
    have g1 := setCells_heap (i := k * size + size) (vs := xs.drop (k * size)) hg (by rw [hd]; omega)
    have g2 := setCells_heap (i := k * size) (vs := vs) g1 (by simp; omega)
    refine ⟨by simp [Nat.succ_mul]; omega, .inr ⟨g, cap, _, rfl, hb, g2, by omega, h2, by simp; omega, ?_⟩⟩
    have e0 : xs.take (k * size) = cur.toList.take (k * size) := by rw [← h4, List.take_take]; congr 1; omega
    rw [e0]
    simp only
    have ht : (cur.toList.take (k * size + size) ++ xs.drop (k * size) ++ cur.toList.drop (k * size + size + (xs.drop (k * size)).length)).take (k * size) = cur.toList.take (k * size) := by
      rw [List.append_assoc, List.take_append_of_le_length (by simp; omega), List.take_take]
      congr 1; omega
    have hdr : (cur.toList.take (k * size + size) ++ xs.drop (k * size) ++ cur.toList.drop (k * size + size + (xs.drop (k * size)).length)).drop (k * size + vs.length) = xs.drop (k * size) ++ cur.toList.drop (k * size + size + (xs.drop (k * size)).length) := by
      have hlen : (cur.toList.take (k * size + size)).length = k * size + vs.length := by simp; omega
      rw [List.append_assoc, ← hlen, List.drop_left]
    rw [ht, hdr, ← List.append_assoc]
    have hlen : (cur.toList.take (k * size) ++ vs ++ xs.drop (k * size)).length = (n + 1) * size := by simp [Nat.succ_mul]; omega
    rw [← hlen, List.take_left]
section
variable (w : World) {A : Option Addr} {n c k lo vb : Nat} {xs vs : List Value}
set_option maxRecDepth 4000 in
set_option maxHeartbeats 2000000 in
theorem insE_end (h : w.ownsRow lo 90 4 (.slice A n c) n xs) (hn : n ≤ 1000000) (hlo : lo ≤ w.heap.size) (hV : Blk w vb 90 vs.toArray) (hvl : vs.length = 4) (h1v : ∀ u ∈ vs, u.oneCell' = true) :
    Calls Tryz.prog 108 #[.slice A n c, .int .i64 (n : Nat), .slice (some ⟨vb, 0, none⟩) 1 1] w fun e w' =>
      ∃ v', e = .returned v' ∧ w'.ownsRow lo 90 4 v' (n + 1) (xs ++ vs) ∧ w.grownBy w' (Value.slice A n c).ownBlock ∧ (v'.ownBlock = (Value.slice A n c).ownBlock ∨ v'.ownBlock = some w.heap.size) := by
  have hr := blk_reads (n := 1) (size := 4) hV hvl
  have q1 : Small (n + 1) := small_of (by omega)
  have hnc : n ≤ c := by
    obtain ⟨_, _, he, hnc, _, _⟩ := own_form h
    injection he with _ _ e3
    omega
  have HV := Lib.hid hV
  clear hV
  rcases A with _ | ⟨g, o, sp⟩
  · go_enter Tryz.func108, Tryz.ntmps108
    go_wp2_with (at_builtin; go_loud (refine ap_plain _ app_edge (by decide) lo (.tmp 23) (.tmp 24) rfl rfl _ _ _ rfl h _ _ _ _ _ rfl hr h1v q1 hlo ?_; intro v' w1 ho1 hg1 hat1))
    all_goals
      go_ret
      exact ⟨_, rfl, ho1, hg1, hat1⟩
  · go_enter Tryz.func108, Tryz.ntmps108
    go_wp2_with (at_builtin; go_loud (refine ap_plain _ app_edge (by decide) lo (.tmp 23) (.tmp 24) rfl rfl _ _ _ rfl h _ _ _ _ _ rfl hr h1v q1 hlo ?_; intro v' w1 ho1 hg1 hat1))
    all_goals
      go_ret
      exact ⟨_, rfl, ho1, hg1, hat1⟩
set_option maxRecDepth 4000 in
set_option maxHeartbeats 2000000 in
theorem insE_shift {g : Nat} (h : w.ownsRow lo 90 4 (.slice (some ⟨g, 0, none⟩) n c) n xs) (hk : k < n) (hnc : n + 1 ≤ c) (hn : n ≤ 1000000) (hV : Blk w vb 90 vs.toArray) (hvb : vb ≠ g) (hvl : vs.length = 4) (h1v : ∀ u ∈ vs, u.oneCell' = true) (h1c : ∀ u ∈ xs, u.oneCell' = true) :
    Calls Tryz.prog 108 #[.slice (some ⟨g, 0, none⟩) n c, .int .i64 (k : Nat), .slice (some ⟨vb, 0, none⟩) 1 1] w fun e w' =>
      e = .returned (.slice (some ⟨g, 0, none⟩) (n + 1) c) ∧ w'.ownsRow lo 90 4 (.slice (some ⟨g, 0, none⟩) (n + 1) c) (n + 1) (xs.take (k * 4) ++ vs ++ xs.drop (k * 4)) ∧ w.grownBy w' (some g) := by
  have hl := h.1
  obtain ⟨cur, hg, hcm, hcs, htake, hlo⟩ : ∃ cur : Array Value, w.heap[g]? = some (.cells cur 90 (0, 0)) ∧ c ≤ maxLen ∧ cur.size = c * 4 ∧ cur.toList.take (n * 4) = xs ∧ lo ≤ g := by
    rcases h.2 with ⟨hv, _⟩ | ⟨g', cap', cur, hv, hb, hg, h1, h2, h3, h4⟩
    · injection hv with h1 _
      cases h1
    · injection hv with e1 e2 e3
      injection e1 with e1
      injection e1 with e1
      subst e1
      subst e3
      exact ⟨cur, hg, h2, h3, h4, hb⟩
  have hc63 : c ≤ 9223372036854775807 := by unfold maxLen at hcm; omega
  have hcl : cur.toList.length = c * 4 := by simpa using hcs
  have hsz : (Tryz.prog.info? 90).map (·.size) = some 4 := by
    have := app_edge.inf
    obtain ⟨i0, h1, h2⟩ := Option.map_eq_some_iff.1 this
    rw [h1]
    injection h2 with _ h2
    injection h2 with h2
    simp [h2]
  have hz4 : ∀ w, (Go.sizeOf 90).run Tryz.prog w = .ok 4 w := fun w => by
    obtain ⟨i0, h1, h2⟩ := Option.map_eq_some_iff.1 hsz
    simp [Go.sizeOf, typeInfo, h1, h2]
  have hz1 : ¬ ((k : Int) = (n : Int)) := by omega
  have hz3 : ¬ ((c : Int) < (n : Int) + 1) := by omega
  have hkn : (k : Int) ≤ (n : Int) := by omega
  have hkc : ¬ (c = k) := by omega
  have hkc1 : ¬ (c = k + 1) := by omega
  have hk0 : (0 : Int) ≤ (k : Int) + 1 := by omega
  have hkn1 : (k : Int) ≤ (n : Int) + 1 := by omega
  have hw1 : IntKind.i64.wrap ((k : Int) + 1) = (k : Int) + 1 := by rw [IntKind.wrap_i64]; omega
  have hw2 : IntKind.i64.wrap ((n : Int) + 1) = (n : Int) + 1 := by rw [IntKind.wrap_i64]; omega
  have hov : ∀ lb cb, (callFunc 134 #[.slice (some ⟨vb, 0, none⟩) 1 1, .slice (some ⟨g, (k + 1) * 4, none⟩) lb cb]).run Tryz.prog w = .ok (.value (.bool false)) w := fun lb cb => by
    have hg0 : g < w.heap.size := (Array.getElem?_eq_some_iff.1 hg).1
    have hsa : w.shape? vb = some (90, 4) := by
      unfold Blk at hV
      simp [World.shape?, hV, hvl]
    have hsb : w.shape? g = some (90, c * 4) := by simp [World.shape?, hg, hcs]
    rw [run_callFunc_extern Tryz.func134 (by kernel_rfl) (by kernel_rfl) (by kernel_rfl) (e := Extern.SlicesOverlaps.overlaps #[25, 25] #[4]) (by kernel_rfl),
      Lib.run_overlaps_apart w 25 4 90 Tryz.underlying25 4 hz4 ⟨vb, 0, none⟩ ⟨g, (k + 1) * 4, none⟩ 1 1 lb cb hvb _ _ _ _ hsa hsb (by omega) (hV.frozen 0) (hV.frozen 4)]
    rfl
  have hdl : (xs.drop (k * 4)).length = (n - k) * 4 := by rw [List.length_drop, hl, Nat.sub_mul]
  have hcell : ∀ j u, xs[j]? = some u → w.drew.cell? ⟨g, j, none⟩ = some u := fun j u hu => by
    have hj := (List.getElem?_eq_some_iff.1 hu).1
    have := (own_drew h).cellAt j (by omega)
    rw [this, hu]
  have hsp : ∀ j, j < c * 4 → (w.drew.cell? ⟨g, j, none⟩).isSome = true := fun j hj => by
    rw [cell_of_row w.drew g j cur _ _ hg]
    simp [hcs, hj]
  have hfz : ∀ j, w.drew.frozen? ⟨g, j, none⟩ = false := fun j => (own_drew h).frozenAt j
  have hcp1 : ∀ ty dc sc, (Builtin.copy_ #[25, 25] ty #[.slice (some ⟨g, (k + 1) * 4, none⟩) (n - k) dc, .slice (some ⟨g, k * 4, none⟩) (n + 1 - k) sc]).run Tryz.prog w.drew = .ok (goInt ((n - k : Nat) : Int)) (w.drew.setCells g ((k + 1) * 4) (xs.drop (k * 4))) := fun ty dc sc =>
    run_copy_wide w.drew _ _ ty 90 g ((k + 1) * 4) (n - k) dc ⟨g, k * 4, none⟩ (n + 1 - k) sc (n - k) 4 (xs.drop (k * 4)) Tryz.underlying25 hsz (by simp only [Nat.min_def]; split <;> omega) hdl
      (fun j v hj => by rw [add_plain]; exact hcell _ v (by rwa [List.getElem?_drop] at hj))
      (fun j hj => hsp _ (by rw [hdl] at hj; omega)) (fun j _ => hfz _) (fun v hv => h1c v (List.mem_of_mem_drop hv))
  have HO := own_ins (own_drew h) (k := k) (by omega) hnc hvl
  have HT : Tch g (g + 1) w ((w.drew.setCells g ((k + 1) * 4) (xs.drop (k * 4))).setCells g (k * 4) vs) :=
    ((Tch.refl g (g + 1) w).drew.trans (setCells_tch g g (g + 1) (Nat.le_refl _) (Nat.lt_succ_self _) _ _ _)).trans (setCells_tch g g (g + 1) (Nat.le_refl _) (Nat.lt_succ_self _) _ _ _)
  generalize xs.drop (k * 4) = news at *
  have hWc : ∀ j, j < c * 4 → ((w.drew.setCells g ((k + 1) * 4) news).cell? ⟨g, j, none⟩).isSome = true := fun j hj => isSome_setCells _ _ _ _ (fun t ht => hsp _ (by omega)) _ (hsp j hj)
  have hWv : ∀ j v, vs[j]? = some v → (w.drew.setCells g ((k + 1) * 4) news).cell? ⟨vb, j, none⟩ = some v := fun j v hj => by
    rw [World.cell?_setCells_out g news _ _ _ (fun h _ => absurd h hvb)]
    have := hV.drew.cell j
    rw [this]
    simpa using hj
  have hWf : ∀ j, (w.drew.setCells g ((k + 1) * 4) news).frozen? ⟨g, j, none⟩ = false := fun j => by rw [World.frozen?_setCells]; exact hfz j
  obtain ⟨W1, hW1⟩ : ∃ W1, W1 = w.drew.setCells g ((k + 1) * 4) news := ⟨_, rfl⟩
  rw [← hW1] at hcp1 HO HT hWc hWv hWf
  have hcp2 : ∀ ty dc, (Builtin.copy_ #[25, 25] ty #[.slice (some ⟨g, k * 4, none⟩) (n + 1 - k) dc, .slice (some ⟨vb, 0, none⟩) 1 1]).run Tryz.prog W1 = .ok (goInt ((1 : Nat) : Int)) (W1.setCells g (k * 4) vs) := fun ty dc =>
    run_copy_wide W1 _ _ ty 90 g (k * 4) (n + 1 - k) dc ⟨vb, 0, none⟩ 1 1 1 4 vs Tryz.underlying25 hsz (by simp only [Nat.min_def]; split <;> omega) (by omega)
      (fun j v hj => by rw [add_plain, Nat.zero_add]; exact hWv _ v hj)
      (fun j hj => hWc _ (by omega)) (fun j _ => hWf _) h1v
  have HX := Lib.hid HO
  have HY := Lib.hid HT
  clear HO HT hWc hWv hWf hsp hcell hfz hdl
  go_enter Tryz.func108, Tryz.ntmps108
  go_wp2_with (simp only [hov])
  go_region_law (refine step_copy_runI rfl _ _ 25 25 rfl _ _ (by simp [Act.eval, Act.put]) (by simp [Act.eval, Act.put]) (hcp1 _ _ _) ?_)
  rw [← hW1]
  have HW := Lib.hid hW1
  clear hW1
  go_wp2_with (at_builtin; refine wpList_copy_runI _ rfl _ _ 25 25 rfl _ _ rfl rfl (hcp2 _ _) ?_)
  go_ret
  exact ⟨rfl, HX.out, HY.out.one⟩
set_option maxRecDepth 4000 in
set_option maxHeartbeats 2000000 in
theorem insE_grow {g : Nat} (h : w.ownsRow lo 90 4 (.slice (some ⟨g, 0, none⟩) n c) n xs) (hk : k < n) (hnc1 : n ≤ c) (hnc : ¬ n + 1 ≤ c) (hn : n ≤ 1000000) (hlo : lo ≤ w.heap.size) (hV : Blk w vb 90 vs.toArray) (hvl : vs.length = 4) (h1v : ∀ u ∈ vs, u.oneCell' = true) (h1c : ∀ u ∈ xs, u.oneCell' = true) :
    Calls Tryz.prog 108 #[.slice (some ⟨g, 0, none⟩) n c, .int .i64 (k : Nat), .slice (some ⟨vb, 0, none⟩) 1 1] w fun e w' =>
      ∃ G, e = .returned (.slice (some ⟨w.heap.size, 0, none⟩) (n + 1) G) ∧ w'.ownsRow lo 90 4 (.slice (some ⟨w.heap.size, 0, none⟩) (n + 1) G) (n + 1) (xs.take (k * 4) ++ vs ++ xs.drop (k * 4)) ∧ w.grownBy w' (some g) := by
  have hl := h.1
  obtain rfl : c = n := by omega
  have hgw : g < w.heap.size := (h.lt g rfl).2
  obtain ⟨i0, hi0, hz0, hzs, hzb⟩ := info_parts app_edge.inf
  have hsz : (Tryz.prog.info? 90).map (·.size) = some 4 := by rw [hi0]; simp [hzs]
  have hcell : ∀ j u, xs[j]? = some u → w.cell? ⟨g, j, none⟩ = some u := fun j u hu => by
    have hj := (List.getElem?_eq_some_iff.1 hu).1
    rw [h.cellAt j (by omega), hu]
  have hkk : (c : Int) + 1 - (k : Int) = ((c + 1 - k : Nat) : Int) := by omega
  have hik : k + (c + 1 - k) = c + 1 := by omega
  have hold : (Builtin.firstCells i0.size k (.slice (some ⟨g, 0, none⟩) k c)).run Tryz.prog w.drew = .ok (xs.take (k * 4)).toArray w.drew := by
    rw [hzs]
    exact run_firstCells_some w.drew 4 k ⟨g, 0, none⟩ k c (xs.take (k * 4)) (by rw [List.length_take]; omega) (fun j v hj => by
      rw [add_plain, Nat.zero_add]
      rw [List.getElem?_take] at hj
      split at hj
      · exact hcell j v hj
      · cases hj)
  obtain ⟨Z, hZ, hZs⟩ : ∃ Z : Array Value, Z = (Value.agg #[.int .i64 0, .int .i64 0, .int .i64 0, .int .i64 0]).cells ∧ Z.size = 4 := ⟨_, rfl, rfl⟩
  have hrz : ∀ ty, (Builtin.append_ #[25, 3] ty #[.slice (some ⟨g, 0, none⟩) k c, .int .i64 ((c : Int) + 1 - (k : Int))]).run Tryz.prog w =
      .ok (.slice (some ⟨w.heap.size, 0, none⟩) (c + 1) (grownCap w (c + 1) c 90)) (w.drew.alloc (.cells ((xs.take (k * 4)).toArray ++ Builtin.zeroCells Z (c + 1 - k) ++ Builtin.zeroCells Z (grownCap w (c + 1) c 90 - (c + 1))) 90)) := fun ty => by
    have h := Lib.run_append_grow_zeros w 25 3 ty 90 i0 _ .i64 .i64 Tryz.underlying25 Tryz.underlying3 hi0 hz0 (some ⟨g, 0, none⟩) k c (xs.take (k * 4)) hold (c + 1 - k) (by omega) (by omega) (by omega) (by omega) (by rw [hzb]; omega) (by rw [hzb, hik]; exact growslice_fits (by omega) (by omega))
    rw [hik, ← hZ] at h
    rw [hkk]
    exact h
  have hGn : c + 1 ≤ grownCap w (c + 1) c 90 := grownCap_ge w _ _ _
  have hG63 : grownCap w (c + 1) c 90 ≤ 9223372036854775807 := by
    have := grownCap_le_maxLen w (c + 1) c 90 (by unfold maxLen; omega)
    unfold maxLen at this
    omega
  generalize grownCap w (c + 1) c 90 = G at *
  obtain ⟨ROW, hROW⟩ : ∃ ROW : Array Value, ROW = (xs.take (k * 4)).toArray ++ Builtin.zeroCells Z (c + 1 - k) ++ Builtin.zeroCells Z (G - (c + 1)) := ⟨_, rfl⟩
  rw [← hROW] at hrz
  have hRs : ROW.size = G * 4 := by
    rw [hROW]
    simp [Builtin.zeroCells, hZs, hl]
    omega
  have hRt : ROW.toList.take (k * 4) = xs.take (k * 4) := by
    have hx : (xs.take (k * 4)).length = k * 4 := by rw [List.length_take]; omega
    rw [hROW, Array.toList_append, Array.toList_append, List.append_assoc, List.take_append_of_le_length (by simp; omega)]
    exact List.take_of_length_le (Nat.le_of_eq hx)
  have h1d : ∀ u ∈ xs.drop (k * 4), u.oneCell' = true := fun u hu => h1c u (List.mem_of_mem_drop hu)
  have hdl : (xs.drop (k * 4)).length = (c - k) * 4 := by rw [List.length_drop, hl, Nat.sub_mul]
  have hW1h : (w.alloc (.cells ROW 90)).drew.heap[w.heap.size]? = some (.cells ROW 90 (0, 0)) := heap_alloc_new w _
  have g2 := setCells_heap (i := k * 4) (vs := vs) hW1h (by omega)
  have g3 := setCells_heap (w := ((w.alloc (.cells ROW 90)).drew.setCells w.heap.size (k * 4) vs).drew) (i := (k + 1) * 4) (vs := xs.drop (k * 4)) g2 (by simp; omega)
  have HO : ((((w.alloc (.cells ROW 90)).drew.setCells w.heap.size (k * 4) vs).drew).setCells w.heap.size ((k + 1) * 4) (xs.drop (k * 4))).ownsRow lo 90 4 (.slice (some ⟨w.heap.size, 0, none⟩) (c + 1) G) (c + 1) (xs.take (k * 4) ++ vs ++ xs.drop (k * 4)) := by
    refine ⟨by simp; omega, .inr ⟨w.heap.size, G, _, rfl, hlo, g3, hGn, by unfold maxLen; omega, by simp; omega, ?_⟩⟩
    simp only
    have hlen1 : (ROW.toList.take (k * 4) ++ vs).length = (k + 1) * 4 := by simp; omega
    rw [← hlen1, List.take_left, hlen1, hRt]
    have hlen : (xs.take (k * 4) ++ vs ++ xs.drop (k * 4)).length = (c + 1) * 4 := by simp; omega
    rw [← hlen, List.take_left]
  have HT : Tch w.heap.size (w.heap.size + 1) w ((((w.alloc (.cells ROW 90)).drew.setCells w.heap.size (k * 4) vs).drew).setCells w.heap.size ((k + 1) * 4) (xs.drop (k * 4))) :=
    (((Tch.refl w.heap.size (w.heap.size + 1) w).alloc _).drew.trans (setCells_tch _ _ _ (Nat.le_refl _) (Nat.lt_succ_self _) _ _ _)).drew.trans (setCells_tch _ _ _ (Nat.le_refl _) (Nat.lt_succ_self _) _ _ _)
  have HG : w.grownBy ((((w.alloc (.cells ROW 90)).drew.setCells w.heap.size (k * 4) vs).drew).setCells w.heap.size ((k + 1) * 4) (xs.drop (k * 4))) (some g) :=
    ⟨HT.os, HT.tape, HT.output, HT.size, fun j hj _ => HT.block j hj (.inl hj)⟩
  obtain ⟨W1, hW1⟩ : ∃ W1, W1 = w.drew.alloc (.cells ROW 90) := ⟨_, rfl⟩
  have hvw : vb < w.heap.size := hV.lt
  have hN : ∀ j, j < G * 4 → (W1.cell? ⟨w.heap.size, j, none⟩).isSome = true := fun j hj => by
    rw [hW1, World.cell?_alloc_at (w := w.drew) ROW _ w.heap.size j rfl, Array.getElem?_eq_getElem (by omega)]; rfl
  have hNf : ∀ j, W1.frozen? ⟨w.heap.size, j, none⟩ = false := fun j => by rw [hW1]; exact World.frozen?_alloc_at (w := w.drew) ROW _ w.heap.size j rfl
  have hOb : ∀ j v, w.cell? ⟨g, j, none⟩ = some v → W1.cell? ⟨g, j, none⟩ = some v := fun j v h => by rw [hW1, World.cell?_alloc_past (w := w.drew) _ g j hgw]; exact h
  have hOv : ∀ j v, vs[j]? = some v → W1.cell? ⟨vb, j, none⟩ = some v := fun j v h => by
    rw [hW1, World.cell?_alloc_past (w := w.drew) _ vb j hvw]
    have := hV.cell j
    have h2 : w.drew.cell? ⟨vb, j, none⟩ = w.cell? ⟨vb, j, none⟩ := rfl
    rw [h2, this]
    simpa using h
  have hcpA : ∀ (W : World), (∀ x, W.cell? x = W1.cell? x) → (∀ x, W.frozen? x = W1.frozen? x) → ∀ ty dc, (Builtin.copy_ #[25, 25] ty #[.slice (some ⟨w.heap.size, k * 4, none⟩) (c + 1 - k) dc, .slice (some ⟨vb, 0, none⟩) 1 1]).run Tryz.prog W = .ok (goInt ((1 : Nat) : Int)) (W.setCells w.heap.size (k * 4) vs) := fun W hWc hWf ty dc =>
    run_copy_wide W _ _ ty 90 w.heap.size (k * 4) (c + 1 - k) dc ⟨vb, 0, none⟩ 1 1 1 4 vs Tryz.underlying25 hsz (by simp only [Nat.min_def]; split <;> omega) (by omega)
      (fun j v hj => by rw [add_plain, Nat.zero_add, hWc]; exact hOv _ v hj)
      (fun j hj => by rw [hWc]; exact hN _ (by omega)) (fun j _ => by rw [hWf]; exact hNf _) h1v
  have hgN : g ≠ w.heap.size := by omega
  have hcpB : ∀ (W : World), (∀ x, W.cell? x = (W1.setCells w.heap.size (k * 4) vs).cell? x) → (∀ x, W.frozen? x = (W1.setCells w.heap.size (k * 4) vs).frozen? x) → ∀ ty dc sc, (Builtin.copy_ #[25, 25] ty #[.slice (some ⟨w.heap.size, (k + 1) * 4, none⟩) (c - k) dc, .slice (some ⟨g, k * 4, none⟩) (c - k) sc]).run Tryz.prog W = .ok (goInt ((c - k : Nat) : Int)) (W.setCells w.heap.size ((k + 1) * 4) (xs.drop (k * 4))) := fun W hWc hWf ty dc sc =>
    run_copy_wide W _ _ ty 90 w.heap.size ((k + 1) * 4) (c - k) dc ⟨g, k * 4, none⟩ (c - k) sc (c - k) 4 (xs.drop (k * 4)) Tryz.underlying25 hsz (by simp only [Nat.min_def]; split <;> omega) hdl
      (fun j v hj => by
        rw [add_plain, hWc, World.cell?_setCells_out _ _ _ _ _ (fun h _ => absurd h hgN)]
        exact hOb _ v (hcell (k * 4 + j) v (by rwa [List.getElem?_drop] at hj)))
      (fun j hj => by rw [hWc]; exact isSome_setCells _ _ _ _ (fun t ht => hN _ (by omega)) _ (hN _ (by omega)))
      (fun j _ => by rw [hWf, World.frozen?_setCells]; exact hNf _) h1d
  subst hW1
  have hE1 : ∀ x, ((w.alloc (.cells ROW 90)).drew).cell? x = (w.drew.alloc (.cells ROW 90)).cell? x := fun x => rfl
  have hE2 : ∀ x, ((w.alloc (.cells ROW 90)).drew).frozen? x = (w.drew.alloc (.cells ROW 90)).frozen? x := fun x => rfl
  have hF1 : ∀ x, (((w.alloc (.cells ROW 90)).drew.setCells w.heap.size (k * 4) vs).drew).cell? x = ((w.drew.alloc (.cells ROW 90)).setCells w.heap.size (k * 4) vs).cell? x := fun x => rfl
  have hF2 : ∀ x, (((w.alloc (.cells ROW 90)).drew.setCells w.heap.size (k * 4) vs).drew).frozen? x = ((w.drew.alloc (.cells ROW 90)).setCells w.heap.size (k * 4) vs).frozen? x := fun x => rfl
  generalize xs.drop (k * 4) = news at *
  have hz1 : ¬ ((k : Int) = (c : Int)) := by omega
  have hz3 : (c : Int) < (c : Int) + 1 := by omega
  have hkn : (k : Int) ≤ (c : Int) := by omega
  have hck : ¬ (c = k) := by omega
  have hGk : ¬ (G = k) := by omega
  have hGk1 : ¬ (G = k + 1) := by omega
  have hk0 : (0 : Int) ≤ (k : Int) + 1 := by omega
  have hkn1 : (k : Int) ≤ (c : Int) + 1 := by omega
  have hw1 : IntKind.i64.wrap ((k : Int) + 1) = (k : Int) + 1 := by rw [IntKind.wrap_i64]; omega
  have hw2 : IntKind.i64.wrap ((c : Int) + 1) = (c : Int) + 1 := by rw [IntKind.wrap_i64]; omega
  have hw3 : IntKind.i64.wrap ((c : Int) + 1 - (k : Int)) = (c : Int) + 1 - (k : Int) := by rw [IntKind.wrap_i64]; omega
  have HX := Lib.hid HO
  have HY := Lib.hid HG
  clear HO HG HT g2 g3 hW1h hRt hRs hdl hkk hik hold hN hNf hOb hOv hROW hcell h hV
  go_enter Tryz.func108, Tryz.ntmps108
  go_wp2_with (first
    | (at_builtin; refine Lib.wpList_append_run _ rfl _ _ _ _ rfl _ _ rfl rfl _ _ (hrz _) ?_)
    | (at_builtin; refine wpList_copy_runI _ rfl _ _ 25 25 rfl _ _ rfl rfl (hcpA _ hE1 hE2 _ _) ?_))
  go_region_law (refine step_copy_runI rfl _ _ 25 25 rfl (.slice (some ⟨w.heap.size, (k + 1) * 4, none⟩) (c - k) (G - (k + 1))) (.slice (some ⟨g, k * 4, none⟩) (c - k) (c - k)) (by simp [Act.eval, Act.put]) (by simp [Act.eval, Act.put]) (hcpB _ hF1 hF2 3 (G - (k + 1)) (c - k)) ?_)
  go_wp2
  go_ret
  exact ⟨_, rfl, HX.out, HY.out⟩
theorem insertE_any (h : w.ownsRow lo 90 4 (.slice A n c) n xs) (hk : k ≤ n) (hn : n ≤ 1000000) (hlo : lo ≤ w.heap.size) (hV : Blk w vb 90 vs.toArray) (hvb : (Value.slice A n c).ownBlock ≠ some vb) (hvl : vs.length = 4) (h1v : ∀ u ∈ vs, u.oneCell' = true) (h1c : ∀ u ∈ xs, u.oneCell' = true) :
    Calls Tryz.prog 108 #[.slice A n c, .int .i64 (k : Nat), .slice (some ⟨vb, 0, none⟩) 1 1] w fun e w' =>
      ∃ A2 c2, e = .returned (.slice A2 (n + 1) c2) ∧ w'.ownsRow lo 90 4 (.slice A2 (n + 1) c2) (n + 1) (xs.take (k * 4) ++ vs ++ xs.drop (k * 4)) ∧ w.grownBy w' (Value.slice A n c).ownBlock := by
  rcases Nat.lt_or_ge k n with hlt | hge
  · obtain ⟨g, c2, hA, _, _⟩ := h.form (by omega)
    have hnc : n ≤ c := by
      obtain ⟨_, _, he, hnc, _, _⟩ := own_form h
      injection he with _ _ e3
      omega
    injection hA with e1 e2 e3
    subst e1
    subst e3
    by_cases hr : n + 1 ≤ c
    · exact (insE_shift w h hlt hr hn hV (fun e => hvb (by simp [Value.ownBlock, e])) hvl h1v h1c).mono fun e w' ⟨h1, h2, h3⟩ => ⟨_, _, h1, h2, by simpa [Value.ownBlock] using h3⟩
    · exact (insE_grow w h hlt hnc hr hn hlo hV hvl h1v h1c).mono fun e w' ⟨G, h1, h2, h3⟩ => ⟨_, _, h1, h2, by simpa [Value.ownBlock] using h3⟩
  · obtain rfl : k = n := by omega
    have hl := h.1
    refine (insE_end w h hn hlo hV hvl h1v).mono fun e w' ⟨v', h1, h2, h3, _⟩ => ?_
    obtain ⟨A2, c2, rfl, _⟩ := own_form h2
    refine ⟨A2, c2, h1, ?_, h3⟩
    rw [List.take_of_length_le (by omega), List.drop_of_length_le (by omega), List.append_nil]
    exact h2
end
def insK (es : List E) (i : Int) : Nat := es.findIdx (fun e => !decide (e.id < i))
theorem insK_le (es : List E) (i : Int) : insK es i ≤ es.length := List.findIdx_le_length
theorem insK_step {es : List E} {i : Int} {k : Nat} {e : E} (he : es[k]? = some e) (h : k ≤ insK es i) : (¬ e.id < i → insK es i = k) ∧ (e.id < i → k + 1 ≤ insK es i) := by
  obtain ⟨hk, rfl⟩ := List.getElem?_eq_some_iff.1 he
  constructor
  · intro hn
    rcases Nat.lt_or_ge k (insK es i) with hlt | hge
    · have := List.not_of_lt_findIdx hlt
      simp at this
      omega
    · omega
  · intro hlt
    rcases Nat.lt_or_ge k (insK es i) with h1 | hge
    · omega
    · have he2 : insK es i = k := by omega
      have hx : es.findIdx (fun e => !decide (e.id < i)) < es.length := by show insK es i < _; omega
      have := List.findIdx_getElem (w := hx)
      have h3 : es.findIdx (fun e => !decide (e.id < i)) = k := he2
      simp only [h3] at this
      simp at this
      omega
def insOk (g : G) (e : E) : Bool := validG g && okE g.vs.length e && decide (¬ ixN g.es e.id < g.es.length) && decide (g.es.length ≠ 12)
def insG (g : G) (e : E) : G × Bool := if insOk g e then (⟨g.vs, g.es.take (insK g.es e.id) ++ [e] ++ g.es.drop (insK g.es e.id)⟩, true) else (g, false)
theorem insG_no {g : G} {e : E} (h : insOk g e = false) : insG g e = (g, false) := by simp [insG, h]
theorem insG_yes {g : G} {e : E} (h : insOk g e = true) : insG g e = (⟨g.vs, g.es.take (insK g.es e.id) ++ [e] ++ g.es.drop (insK g.es e.id)⟩, true) := by simp [insG, h]
theorem ecs_ins (L : List E) (k : Nat) (e : E) : (ecs L).take (k * 4) ++ ec e ++ (ecs L).drop (k * 4) = ecs (L.take k ++ [e] ++ L.drop k) := by
  rw [ecs_take, ecs_drop, ecs_append, ecs_append]
  simp [ecs]
theorem ec_one (e : E) : ∀ u ∈ ec e, u.oneCell' = true := by
  intro u hu
  simp [ec] at hu
  rcases hu with rfl | rfl | rfl | rfl <;> rfl
end Go.Proofs.YtomkgnamjfiocaaGreatDoor
namespace Go.Proofs.YtomkgnamjfiocaaGreatDoor
open Go.RowKit Go.ChangeShapes Go.WideShapes Go.ChangeAt Go.Deep
set_option linter.unusedVariables false
theorem ixE_no {es : List E} {i : Int} (h : ¬ ixN es i < es.length) : ixE es i = -1 := by simp [ixE, h]
theorem ixE_yes {es : List E} {i : Int} (h : ixN es i < es.length) : ixE es i = (ixN es i : Int) := by simp [ixE, h]
set_option maxRecDepth 4000 in
set_option maxHeartbeats 2000000 in
theorem implDeleteEdge_is (w : World) {A B : Option Addr} {n c m d : Nat} {g : G} (h : GRd w A n B m g) (i : Int) :
    Calls Tryz.prog 66 #[.agg #[.slice A n c, .slice B m d], .int .i64 i] w fun e w' => ∃ A2 n2 c2 B2 m2 d2, e = .returned (.tuple #[.agg #[.slice A2 n2 c2, .slice B2 m2 d2], .bool (delG g i).2]) ∧ GIs w' w.heap.size w'.heap.size A2 n2 c2 B2 m2 d2 ((delG g i).1.vs.map iv) (ecs (delG g i).1.es) ∧ Below w.heap.size w w' := by
  have hn := h.bn
  have hm := h.bm
  have lm := h.gr.lm
  have HLM := Lib.hid lm
  clear lm
  go_enter Tryz.func66, Tryz.ntmps66
  go_wp2_with fail
  have hB0 : Below w.heap.size w ((w.alloc (.cells #[.slice A n c, .slice B m d] 27)).alloc (.cells #[.slice none 0 0, .slice none 0 0] 27)) := ((Below.refl _ _).alloc (Nat.le_refl _) _).alloc (by simp) _
  have kA : ((w.alloc (.cells #[.slice A n c, .slice B m d] 27)).alloc (.cells #[.slice none 0 0, .slice none 0 0] 27)).cell? ⟨w.heap.size, 0, none⟩ = some (.slice A n c) := by go_simp
  have kB : ((w.alloc (.cells #[.slice A n c, .slice B m d] 27)).alloc (.cells #[.slice none 0 0, .slice none 0 0] 27)).cell? ⟨w.heap.size, 1, none⟩ = some (.slice B m d) := by go_simp
  have r0 : ((w.alloc (.cells #[.slice A n c, .slice B m d] 27)).alloc (.cells #[.slice none 0 0, .slice none 0 0] 27)).cell? ⟨w.heap.size + 1, 0, none⟩ = some (.slice none 0 0) := by go_simp
  have r1 : ((w.alloc (.cells #[.slice A n c, .slice B m d] 27)).alloc (.cells #[.slice none 0 0, .slice none 0 0] 27)).cell? ⟨w.heap.size + 1, 1, none⟩ = some (.slice none 0 0) := by go_simp
  have f0 : ((w.alloc (.cells #[.slice A n c, .slice B m d] 27)).alloc (.cells #[.slice none 0 0, .slice none 0 0] 27)).frozen? ⟨w.heap.size + 1, 0, none⟩ = false := by go_simp
  have f1 : ((w.alloc (.cells #[.slice A n c, .slice B m d] 27)).alloc (.cells #[.slice none 0 0, .slice none 0 0] 27)).frozen? ⟨w.heap.size + 1, 1, none⟩ = false := by go_simp
  have hz0 : w.heap.size + 1 < ((w.alloc (.cells #[.slice A n c, .slice B m d] 27)).alloc (.cells #[.slice none 0 0, .slice none 0 0] 27)).heap.size := by simp
  generalize ((w.alloc (.cells #[.slice A n c, .slice B m d] 27)).alloc (.cells #[.slice none 0 0, .slice none 0 0] 27)) = w0 at *
  refine (copyGraph_is _ (h.up hB0)).mono ?_
  rintro e w1 ⟨A1, c1, B1, d1, rfl, I1, hb1⟩
  have hB1 := below_then hB0 hb1
  have hz1 := hb1.size
  have hx0 : w.heap.size < w1.heap.size := by omega
  have kA1 := cell_keep hb1 kA
  have kB1 := cell_keep hb1 kB
  go_wp2_with fail
  have hb2 : Below w1.heap.size w1 (w1.alloc (.cells #[.slice A1 n c1, .slice B1 m d1] 27)) := (Below.refl _ _).alloc (Nat.le_refl _) _
  have hb02 := below_then hb1 hb2
  have hB2 := below_then hB1 hb2
  have I2 := I1.below hb2
  have oA : (w1.alloc (.cells #[.slice A1 n c1, .slice B1 m d1] 27)).cell? ⟨w1.heap.size, 0, none⟩ = some (.slice A1 n c1) := by go_simp
  have oB : (w1.alloc (.cells #[.slice A1 n c1, .slice B1 m d1] 27)).cell? ⟨w1.heap.size, 1, none⟩ = some (.slice B1 m d1) := by go_simp
  have of1 : (w1.alloc (.cells #[.slice A1 n c1, .slice B1 m d1] 27)).frozen? ⟨w1.heap.size, 1, none⟩ = false := by go_simp
  have hz2 : w1.heap.size < (w1.alloc (.cells #[.slice A1 n c1, .slice B1 m d1] 27)).heap.size := by simp
  have kA2 := cell_keep hb02 kA
  have kB2 := cell_keep hb02 kB
  generalize (w1.alloc (.cells #[.slice A1 n c1, .slice B1 m d1] 27)) = w2 at *
  refine (implEdgeIx_rd _ (h.up hB2) i).mono ?_
  rintro e w3 ⟨rfl, hb3⟩
  have hz3 := hb3.size
  have hb03 := below_then hb02 hb3
  have hB3 := below_then hB2 hb3
  have I3 := I2.below hb3
  have kA3 := cell_keep hb3 kA2
  have kB3 := cell_keep hb3 kB2
  have oA3 := cell_keep hb3 oA
  have oB3 := cell_keep hb3 oB
  have of3 := frozen_keep hb3 oB of1
  have r03 := cell_keep hb03 r0
  have r13 := cell_keep hb03 r1
  have f03 := frozen_keep hb03 r0 f0
  have f13 := frozen_keep hb03 r1 f1
  have hx1 : w.heap.size + 1 ≠ w1.heap.size := by omega
  have hx2 : w.heap.size + 1 < w3.heap.size := by omega
  clear kA kB kA1 kB1 kA2 kB2 oA oB of1 r0 r1 f0 f1 hb1 hb2 hb3 hb02 I1 I2 hB0 hB1 hB2
  by_cases hix : ixN g.es i < g.es.length
  rotate_left
  · have HG := Lib.hid (delG_no (g := g) (i := i) (by simp [delOk, hix]))
    rw [ixE_no hix]
    clear hix
    go_wp2_with fail
    refine bodyPost_ret (v := .tuple #[.agg #[.slice A1 n c1, .slice B1 m d1], .bool false]) ?_ rfl ?_
    · simp [results, Tryz.results66, go_sem]
      go_simp
    · rw [HG.out]
      exact ⟨_, _, _, _, _, _, rfl, gis_ret I3 _ _ _ _ hz0 (by omega) (by omega), below_ret hB3 _ _ _ (by omega)⟩
  · rw [ixE_yes hix]
    obtain ⟨k, hk⟩ : ∃ k, ixN g.es i = k := ⟨_, rfl⟩
    rw [hk]
    have HK := Lib.hid hk
    have HI := Lib.hid hix
    clear hk hix
    have hkm : k < m := by have := HLM.out; have := HK.out; have := HI.out; omega
    go_wp2_with fail
    refine (implValid_rd _ (h.up hB3)).mono ?_
    rintro e w4 ⟨rfl, hb4⟩
    have hz4 := hb4.size
    have hB4 := below_then hB3 hb4
    have I4 := I3.below hb4
    have kA4 := cell_keep hb4 kA3
    have kB4 := cell_keep hb4 kB3
    have oA4 := cell_keep hb4 oA3
    have oB4 := cell_keep hb4 oB3
    have of4 := frozen_keep hb4 oB3 of3
    have r04 := cell_keep hb4 r03
    have r14 := cell_keep hb4 r13
    have f04 := frozen_keep hb4 r03 f03
    have f14 := frozen_keep hb4 r13 f13
    have hx4 : w.heap.size + 1 < w4.heap.size := by omega
    clear kA3 kB3 oA3 oB3 of3 r03 r13 f03 f13 hb4 I3 hB3 hb03
    cases hv : validG g
    · have HG := Lib.hid (delG_no (g := g) (i := i) (by simp [delOk, hv]))
      clear hv
      go_wp2_with fail
      refine bodyPost_ret (v := .tuple #[.agg #[.slice A1 n c1, .slice B1 m d1], .bool false]) ?_ rfl ?_
      · simp [results, Tryz.results66, go_sem]
        go_simp
      · rw [HG.out]
        exact ⟨_, _, _, _, _, _, rfl, gis_ret I4 _ _ _ _ hz0 (by omega) (by omega), below_ret hB4 _ _ _ (by omega)⟩
    · have HG := Lib.hid (delG_yes (g := g) (i := i) (by simp [delOk, hv, HI.out]))
      rw [HK.out] at HG
      clear hv
      obtain ⟨r, rfl⟩ : ∃ r, m = k + r + 1 := ⟨m - k - 1, by omega⟩
      obtain ⟨b1, rfl, hb1a, hb1b⟩ := I4.ov.at_ (by omega)
      go_wp2_with fail
      try rw [IntWalk.wrap64_in ((k : Int) + 1) ⟨by omega, by omega⟩]
      refine (deleteE_any _ I4.ov ecs_one').mono ?_
      rintro e w5 ⟨rfl, v5, t5⟩
      have hne := own_ne I4.ou.own.row I4.ov.own.row (by decide)
      have u5 := I4.ou.tch1 t5 (fun q hq hqe => hne q hq (by simp [Value.ownBlock, hqe]))
      have hs5 := t5.size
      have hB5 := below_tch hB4 t5 (by omega)
      have oA5 := cell_tch t5 oA4 (by dsimp only; omega)
      have oB5 := cell_tch t5 oB4 (by dsimp only; omega)
      have of5 := t5.frz oB4 of4 (by dsimp only; omega)
      have r05 := cell_tch t5 r04 (by dsimp only; omega)
      have r15 := cell_tch t5 r14 (by dsimp only; omega)
      have f05 := t5.frz r04 f04 (by dsimp only; omega)
      have f15 := t5.frz r14 f14 (by dsimp only; omega)
      have hx5 : w.heap.size + 1 < w5.heap.size := by omega
      rw [ecs_take, ecs_drop, ← ecs_append] at v5
      have I6 : GIs (w5.setCell ⟨w1.heap.size, 1, none⟩ (.slice (some ⟨b1, 0, none⟩) (k + r) d1)) w0.heap.size w1.heap.size A1 n c1 (some ⟨b1, 0, none⟩) (k + r) d1 (g.vs.map iv) (ecs (g.es.take k ++ g.es.drop (k + 1))) :=
        ⟨u5.far (fun q hq hqe => by have := u5.own.top q hq; simp at hqe; omega) _, v5.far (fun q hq hqe => by have := v5.own.top q hq; simp at hqe; omega) _⟩
      have hB6 : Below w.heap.size w (w5.setCell ⟨w1.heap.size, 1, none⟩ (.slice (some ⟨b1, 0, none⟩) (k + r) d1)) := hB5.setCell (p := ⟨w1.heap.size, 1, none⟩) (by dsimp only; omega) _
      clear t5 u5 v5 I4 hB4 hB5 kA4 kB4 oA4 oB4 of4 r04 r14 f04 f14 hne h
      go_wp2_with fail
      refine bodyPost_ret (v := .tuple #[.agg #[.slice A1 n c1, .slice (some ⟨b1, 0, none⟩) (k + r) d1], .bool true]) ?_ rfl ?_
      · simp [results, Tryz.results66, go_sem]
        go_simp
      · rw [HG.out]
        exact ⟨_, _, _, _, _, _, rfl, gis_ret I6 _ _ _ _ hz0 (by omega) (by simp; omega), below_ret hB6 _ _ _ (by omega)⟩
end Go.Proofs.YtomkgnamjfiocaaGreatDoor
namespace Go.Proofs.YtomkgnamjfiocaaGreatDoor
open Go.RowKit Go.ChangeShapes Go.WideShapes Go.ChangeAt Go.Deep
set_option linter.unusedVariables false
theorem cell_sf {w : World} {p q : Addr} {u v : Value} (h : w.cell? p = some v) (hp : q.block ≠ p.block) : (w.setCell q u).cell? p = some v := by
  rw [World.cell?_setCell_other _ _ _ _ (fun e => hp (by rw [e]))]
  exact h
theorem Blk.c10 {w : World} {g : Nat} {t : TypeId} {a : Value} (h : Blk w g t #[a]) : w.cell? ⟨g, 0, none⟩ = some a := by rw [h.cell]; rfl
theorem Blk.c20 {w : World} {g : Nat} {t : TypeId} {a b : Value} (h : Blk w g t #[a, b]) : w.cell? ⟨g, 0, none⟩ = some a := by rw [h.cell]; rfl
theorem Blk.c21 {w : World} {g : Nat} {t : TypeId} {a b : Value} (h : Blk w g t #[a, b]) : w.cell? ⟨g, 1, none⟩ = some b := by rw [h.cell]; rfl
theorem lt_al (w : World) (o : Obj) : w.heap.size < (w.alloc o).heap.size := by simp
theorem lt_ald (w : World) (o : Obj) : w.heap.size < (w.alloc o).drew.heap.size := by show _ < (w.alloc o).heap.size; simp
theorem cut_res {w X w' N : World} {e : TypeId} {size n c : Nat} {A : Option Addr} {xs : List Value} (hN : Below N.heap.size N w) (hX : Below w.heap.size w X) (O : RIs w' X.heap.size w'.heap.size e size A n c xs) : RIs w' N.heap.size w'.heap.size e size A n c xs :=
  O.wide (Nat.le_trans hN.size hX.size) (Nat.le_refl _)
theorem cut_resG {w X w' N : World} {n c m d : Nat} {A B : Option Addr} {xs ys : List Value} (hN : Below N.heap.size N w) (hX : Below w.heap.size w X) (O : GIs w' X.heap.size w'.heap.size A n c B m d xs ys) : GIs w' N.heap.size w'.heap.size A n c B m d xs ys :=
  O.wide (Nat.le_trans hN.size hX.size) (Nat.le_refl _)
theorem RIs.off {w : World} {a b g : Nat} {e t : TypeId} {size n c : Nat} {A : Option Addr} {xs : List Value} {cs : Array Value} (h : RIs w a b e size A n c xs) (Z : Blk w g t cs) (hne : e ≠ t) (i : Nat) (u : Value) : RIs (w.setCell ⟨g, i, none⟩ u) a b e size A n c xs :=
  h.far (p := ⟨g, i, none⟩) (fun q hq hqe => own_blk_ne h.own.row Z hne (by rw [hq, hqe])) u
/-- A walk that a call gave, boxed, and a truth beside it. -/
def CutWk (W : World) (r : Wk) (ok : Bool) (p b : Value) (wx : World) : Prop :=
  ∃ (xb : Nat) (A : Option Addr) (n c : Nat), p = .pointer (some ⟨xb, 0, none⟩) ∧ b = .bool ok ∧ wx.cell? ⟨xb, 0, none⟩ = some (.int .i64 r.st) ∧ wx.cell? ⟨xb, 1, none⟩ = some (.slice A n c) ∧
    RIs wx W.heap.size wx.heap.size 68 2 A n c (stcs r.steps) ∧ Below W.heap.size W wx ∧ W.heap.size ≤ xb ∧ xb < wx.heap.size
theorem CutWk.late {W w : World} {r : Wk} {ok : Bool} {A : Option Addr} {n c : Nat} (hN : Below W.heap.size W w) (O : RIs w W.heap.size w.heap.size 68 2 A n c (stcs r.steps)) :
    CutWk W r ok (.pointer (some ⟨w.heap.size, 0, none⟩)) (.bool ok) (w.alloc (.cells #[.int .i64 r.st, .slice A n c] 30)) := by
  have Z := Blk.new w 30 #[.int .i64 r.st, .slice A n c]
  have hb : Below w.heap.size w (w.alloc (.cells #[.int .i64 r.st, .slice A n c] 30)) := (Below.refl _ _).alloc (Nat.le_refl _) _
  exact ⟨_, _, _, _, rfl, rfl, by rw [Z.cell]; rfl, by rw [Z.cell]; rfl, (O.below hb).wide (Nat.le_refl _) hb.size, below_then hN hb, hN.size, by simp⟩
theorem CutWk.early {W w : World} {r : Wk} {ok : Bool} {A : Option Addr} {n c g : Nat} {a b : Value} (hN : Below W.heap.size W w) (O : RIs w W.heap.size w.heap.size 68 2 A n c (stcs r.steps)) (Z : Blk w g 30 #[a, b]) (hg : W.heap.size ≤ g) :
    CutWk W r ok (.pointer (some ⟨g, 0, none⟩)) (.bool ok) ((w.setCell ⟨g, 0, none⟩ (.int .i64 r.st)).setCell ⟨g, 1, none⟩ (.slice A n c)) := by
  have Z2 := (Z.set_ 0 (.int .i64 r.st)).set_ 1 (.slice A n c)
  have hl := Z.lt
  exact ⟨_, _, _, _, rfl, rfl, by rw [Z2.cell]; rfl, by rw [Z2.cell]; rfl, by simpa using (O.off Z (by decide) 0 _).off (Z.set_ 0 _) (by decide) 1 _, (hN.setCell (p := ⟨g, 0, none⟩) hg _).setCell (p := ⟨g, 1, none⟩) hg _, hg, by simpa using hl⟩
/-- A batch that a call gave, boxed. -/
def CutBt (W : World) (l : List Cg) (ok : Bool) (p b : Value) (wx : World) : Prop :=
  ∃ (xb : Nat) (A : Option Addr) (n c : Nat), p = .pointer (some ⟨xb, 0, none⟩) ∧ b = .bool ok ∧ wx.cell? ⟨xb, 0, none⟩ = some (.slice A n c) ∧
    RIs wx W.heap.size wx.heap.size 92 5 A n c (cgcs l) ∧ Below W.heap.size W wx ∧ W.heap.size ≤ xb ∧ xb < wx.heap.size
theorem CutBt.late {W w : World} {l : List Cg} {ok : Bool} {A : Option Addr} {n c : Nat} (hN : Below W.heap.size W w) (O : RIs w W.heap.size w.heap.size 92 5 A n c (cgcs l)) :
    CutBt W l ok (.pointer (some ⟨w.heap.size, 0, none⟩)) (.bool ok) (w.alloc (.cells #[.slice A n c] 47)) := by
  have Z := Blk.new w 47 #[.slice A n c]
  have hb : Below w.heap.size w (w.alloc (.cells #[.slice A n c] 47)) := (Below.refl _ _).alloc (Nat.le_refl _) _
  exact ⟨_, _, _, _, rfl, rfl, by rw [Z.cell]; rfl, (O.below hb).wide (Nat.le_refl _) hb.size, below_then hN hb, hN.size, by simp⟩
theorem CutBt.early {W w : World} {l : List Cg} {ok : Bool} {A : Option Addr} {n c g : Nat} {a : Value} (hN : Below W.heap.size W w) (O : RIs w W.heap.size w.heap.size 92 5 A n c (cgcs l)) (Z : Blk w g 47 #[a]) (hg : W.heap.size ≤ g) :
    CutBt W l ok (.pointer (some ⟨g, 0, none⟩)) (.bool ok) (w.setCell ⟨g, 0, none⟩ (.slice A n c)) := by
  have Z2 := Z.set_ 0 (.slice A n c)
  have hl := Z.lt
  exact ⟨_, _, _, _, rfl, rfl, by rw [Z2.cell]; rfl, by simpa using O.off Z (by decide) 0 _, hN.setCell (p := ⟨g, 0, none⟩) hg _, hg, by simpa using hl⟩
/-- A graph that a call gave, boxed. -/
def CutGr (W : World) (r : G) (ok : Bool) (p b : Value) (wx : World) : Prop :=
  ∃ (xb : Nat) (A : Option Addr) (n c : Nat) (B : Option Addr) (m d : Nat), p = .pointer (some ⟨xb, 0, none⟩) ∧ b = .bool ok ∧ wx.cell? ⟨xb, 0, none⟩ = some (.slice A n c) ∧ wx.cell? ⟨xb, 1, none⟩ = some (.slice B m d) ∧
    GIs wx W.heap.size wx.heap.size A n c B m d (r.vs.map iv) (ecs r.es) ∧ Below W.heap.size W wx ∧ W.heap.size ≤ xb ∧ xb < wx.heap.size
theorem CutGr.late {W w : World} {r : G} {ok : Bool} {A B : Option Addr} {n c m d : Nat} (hN : Below W.heap.size W w) (O : GIs w W.heap.size w.heap.size A n c B m d (r.vs.map iv) (ecs r.es)) :
    CutGr W r ok (.pointer (some ⟨w.heap.size, 0, none⟩)) (.bool ok) (w.alloc (.cells #[.slice A n c, .slice B m d] 27)) := by
  have Z := Blk.new w 27 #[.slice A n c, .slice B m d]
  have hb : Below w.heap.size w (w.alloc (.cells #[.slice A n c, .slice B m d] 27)) := (Below.refl _ _).alloc (Nat.le_refl _) _
  exact ⟨_, _, _, _, _, _, _, rfl, rfl, by rw [Z.cell]; rfl, by rw [Z.cell]; rfl, (O.below hb).wide (Nat.le_refl _) hb.size, below_then hN hb, hN.size, by simp⟩
theorem CutGr.early {W w : World} {r : G} {ok : Bool} {A B : Option Addr} {n c m d g : Nat} {a b : Value} (hN : Below W.heap.size W w) (O : GIs w W.heap.size w.heap.size A n c B m d (r.vs.map iv) (ecs r.es)) (Z : Blk w g 27 #[a, b]) (hg : W.heap.size ≤ g) :
    CutGr W r ok (.pointer (some ⟨g, 0, none⟩)) (.bool ok) ((w.setCell ⟨g, 0, none⟩ (.slice A n c)).setCell ⟨g, 1, none⟩ (.slice B m d)) := by
  have Z2 := (Z.set_ 0 (.slice A n c)).set_ 1 (.slice B m d)
  have hl := Z.lt
  exact ⟨_, _, _, _, _, _, _, rfl, rfl, by rw [Z2.cell]; rfl, by rw [Z2.cell]; rfl, ⟨by simpa using (O.ou.off Z (by decide) 0 _).off (Z.set_ 0 _) (by decide) 1 _, by simpa using (O.ov.off Z (by decide) 0 _).off (Z.set_ 0 _) (by decide) 1 _⟩, (hN.setCell (p := ⟨g, 0, none⟩) hg _).setCell (p := ⟨g, 1, none⟩) hg _, hg, by simpa using hl⟩
end Go.Proofs.YtomkgnamjfiocaaGreatDoor
namespace Go.Proofs.YtomkgnamjfiocaaGreatDoor
open Go.RowKit Go.ChangeShapes Go.WideShapes Go.ChangeAt Go.Deep
set_option linter.unusedVariables false
set_option maxRecDepth 4000 in
set_option maxHeartbeats 2000000 in
theorem implInsertEdge_is (w : World) {A B : Option Addr} {n c m d : Nat} {g : G} (h : GRd w A n B m g) (e : E) :
    Calls Tryz.prog 64 #[.agg #[.slice A n c, .slice B m d], .agg #[.int .i64 e.id, .int .i64 e.fr, .int .i64 e.to, .int .i64 e.lb]] w fun r w' => ∃ A2 n2 c2 B2 m2 d2, r = .returned (.tuple #[.agg #[.slice A2 n2 c2, .slice B2 m2 d2], .bool (insG g e).2]) ∧ GIs w' w.heap.size w'.heap.size A2 n2 c2 B2 m2 d2 ((insG g e).1.vs.map iv) (ecs (insG g e).1.es) ∧ Below w.heap.size w w' := by
  have hn := h.bn
  have hm := h.bm
  have lm := h.gr.lm
  have ln := h.gr.ln
  have HLM := Lib.hid lm
  have HLN := Lib.hid ln
  clear lm ln
  obtain ⟨e0, e1, e2, e3⟩ := e
  dsimp only
  go_enter Tryz.func64, Tryz.ntmps64
  go_wp2_with fail
  have hB0 : Below w.heap.size w (((w.alloc (.cells #[.slice A n c, .slice B m d] 27)).alloc (.cells #[.int .i64 e0, .int .i64 e1, .int .i64 e2, .int .i64 e3] 90)).alloc (.cells #[.slice none 0 0, .slice none 0 0] 27)) := (((Below.refl _ _).alloc (Nat.le_refl _) _).alloc (by simp) _).alloc (by simp; omega) _
  have XG := ((Blk.new w 27 #[.slice A n c, .slice B m d]).alloc (.cells #[.int .i64 e0, .int .i64 e1, .int .i64 e2, .int .i64 e3] 90)).alloc (.cells #[.slice none 0 0, .slice none 0 0] 27)
  have XE := (Blk.new (w.alloc (.cells #[.slice A n c, .slice B m d] 27)) 90 #[.int .i64 e0, .int .i64 e1, .int .i64 e2, .int .i64 e3]).alloc (.cells #[.slice none 0 0, .slice none 0 0] 27)
  have XR := Blk.new ((w.alloc (.cells #[.slice A n c, .slice B m d] 27)).alloc (.cells #[.int .i64 e0, .int .i64 e1, .int .i64 e2, .int .i64 e3] 90)) 27 #[.slice none 0 0, .slice none 0 0]
  simp only [World.size_alloc] at XE XR
  generalize (((w.alloc (.cells #[.slice A n c, .slice B m d] 27)).alloc (.cells #[.int .i64 e0, .int .i64 e1, .int .i64 e2, .int .i64 e3] 90)).alloc (.cells #[.slice none 0 0, .slice none 0 0] 27)) = w0 at *
  refine (copyGraph_is _ (h.up hB0)).mono ?_
  rintro e w1 ⟨A1, c1, B1, d1, rfl, I1, hb1⟩
  replace XG := XG.below hb1 XG.lt
  have hz0 := XR.lt
  replace XE := XE.below hb1 XE.lt
  replace XR := XR.below hb1 XR.lt
  have hB1 := below_then hB0 hb1
  have hz1 := hb1.size
  have kA1 : w1.cell? ⟨w.heap.size, 0, none⟩ = some (.slice A n c) := by rw [XG.cell]; rfl
  have kB1 : w1.cell? ⟨w.heap.size, 1, none⟩ = some (.slice B m d) := by rw [XG.cell]; rfl
  have hx1 : w.heap.size < w1.heap.size := by omega
  go_wp2_with fail
  clear kA1 kB1
  have hb2 : Below w1.heap.size w1 (w1.alloc (.cells #[.slice A1 n c1, .slice B1 m d1] 27)) := (Below.refl _ _).alloc (Nat.le_refl _) _
  have XX := Blk.new w1 27 #[.slice A1 n c1, .slice B1 m d1]
  generalize (w1.alloc (.cells #[.slice A1 n c1, .slice B1 m d1] 27)) = w2 at *
  replace XG := XG.below hb2 XG.lt
  replace XE := XE.below hb2 XE.lt
  replace XR := XR.below hb2 XR.lt
  have hB2 := below_then hB1 hb2
  have hz2 := XX.lt
  have I2 := I1.below hb2
  have kA := XG.kc (v := .slice A n c) 0 rfl
  have kB := XG.kc (v := .slice B m d) 1 rfl
  have k0 := XE.kc (v := .int .i64 e0) 0 rfl
  have k1 := XE.kc (v := .int .i64 e1) 1 rfl
  have k2 := XE.kc (v := .int .i64 e2) 2 rfl
  have k3 := XE.kc (v := .int .i64 e3) 3 rfl
  have r0 := XR.kc (v := .slice none 0 0) 0 rfl
  have r1 := XR.kc (v := .slice none 0 0) 1 rfl
  have f0 := XR.kf 0
  have f1 := XR.kf 1
  have xA := XX.kc (v := .slice A1 n c1) 0 rfl
  have xB := XX.kc (v := .slice B1 m d1) 1 rfl
  have xf := XX.kf 1
  clear I1 hb1 hb2 hB0 hB1 XG XE
  refine (implValid_rd _ (h.up hB2)).mono ?_
  rintro e w3 ⟨rfl, hb3⟩
  obtain ⟨y, rfl⟩ := Kept.fst hb3
  clear hb3
  have fin : ∀ y : Kept w2, insG g ⟨e0, e1, e2, e3⟩ = (g, false) → ∃ A2 n2 c2 B2 m2 d2, Ending.returned (.tuple #[.agg #[.slice A1 n c1, .slice B1 m d1], .bool false]) = Ending.returned (.tuple #[.agg #[.slice A2 n2 c2, .slice B2 m2 d2], .bool (insG g ⟨e0, e1, e2, e3⟩).2]) ∧ GIs ((y.W.setCell ⟨w.heap.size + 1 + 1, 0, none⟩ (.slice A1 n c1)).setCell ⟨w.heap.size + 1 + 1, 1, none⟩ (.slice B1 m d1)) w.heap.size ((y.W.setCell ⟨w.heap.size + 1 + 1, 0, none⟩ (.slice A1 n c1)).setCell ⟨w.heap.size + 1 + 1, 1, none⟩ (.slice B1 m d1)).heap.size A2 n2 c2 B2 m2 d2 ((insG g ⟨e0, e1, e2, e3⟩).1.vs.map iv) (ecs (insG g ⟨e0, e1, e2, e3⟩).1.es) ∧ Below w.heap.size w ((y.W.setCell ⟨w.heap.size + 1 + 1, 0, none⟩ (.slice A1 n c1)).setCell ⟨w.heap.size + 1 + 1, 1, none⟩ (.slice B1 m d1)) := fun y hE => by
    rw [hE]
    have := y.be.size
    exact ⟨_, _, _, _, _, _, rfl, gis_ret (I2.below y.be) _ _ _ _ (by omega) (by omega) (by omega), below_ret (below_then hB2 y.be) _ _ _ (by omega)⟩
  have FIN := Lib.hid fin
  clear fin
  have hno : insOk g ⟨e0, e1, e2, e3⟩ = false → Hid (insG g ⟨e0, e1, e2, e3⟩ = (g, false)) := fun h => Lib.hid (insG_no h)
  cases hv : validG g
  · have HG := hno (by simp [insOk, hv])
    clear hno hv
    go_wp2_with fail
    refine bodyPost_ret (v := .tuple #[.agg #[.slice A1 n c1, .slice B1 m d1], .bool false]) ?_ rfl ?_
    · simp [results, Tryz.results64, go_sem]
      go_simp
    · exact FIN.out y HG.out
  · cases hok : okE n ⟨e0, e1, e2, e3⟩
    · have HG := hno (by simp [insOk, hok, HLN.out])
      have HOK := Lib.hid hok
      clear hno hv hok
      go_wp2_with (go_at_call 106; refine (edgeOk_any ⟨e0, e1, e2, e3⟩ n _ (by omega) (by omega)).mono ?_; rw [HOK.out]; rintro e w' ⟨rfl, hb⟩; obtain ⟨y4, rfl⟩ := Kept.of _ hb)
      refine bodyPost_ret (v := .tuple #[.agg #[.slice A1 n c1, .slice B1 m d1], .bool false]) ?_ rfl ?_
      · simp [results, Tryz.results64, go_sem]
        go_simp
      · exact FIN.out y4 HG.out
    · have HOK := Lib.hid hok
      by_cases hix : ixN g.es e0 < g.es.length
      · have HG := hno (by simp [insOk, hix])
        have HIX := Lib.hid (ixE_yes hix)
        clear hno hv hok hix
        go_wp2_with (first
          | (go_at_call 106; refine (edgeOk_any ⟨e0, e1, e2, e3⟩ n _ (by omega) (by omega)).mono ?_; rw [HOK.out]; rintro e w' ⟨rfl, hb⟩; obtain ⟨y4, rfl⟩ := Kept.of _ hb)
          | (go_at_call 107; refine (implEdgeIx_rd _ (h.up (below_then hB2 (Kept.be _))) e0).mono ?_; rw [HIX.out]; rintro e w' ⟨rfl, hb⟩; obtain ⟨y5, rfl⟩ := Kept.of _ hb))
        refine bodyPost_ret (v := .tuple #[.agg #[.slice A1 n c1, .slice B1 m d1], .bool false]) ?_ rfl ?_
        · simp [results, Tryz.results64, go_sem]
          go_simp
        · exact FIN.out y5 HG.out
      · have HIX := Lib.hid (ixE_no hix)
        by_cases h12 : m = 12
        · have HG := hno (by simp [insOk, HLM.out, h12])
          subst h12
          clear hno hv hok hix
          go_wp2_with (first
            | (go_at_call 106; refine (edgeOk_any ⟨e0, e1, e2, e3⟩ n _ (by omega) (by omega)).mono ?_; rw [HOK.out]; rintro e w' ⟨rfl, hb⟩; obtain ⟨y4, rfl⟩ := Kept.of _ hb)
            | (go_at_call 107; refine (implEdgeIx_rd _ (h.up (below_then hB2 (Kept.be _))) e0).mono ?_; rw [HIX.out]; rintro e w' ⟨rfl, hb⟩; obtain ⟨y5, rfl⟩ := Kept.of _ hb))
          refine bodyPost_ret (v := .tuple #[.agg #[.slice A1 n c1, .slice B1 12 d1], .bool false]) ?_ rfl ?_
          · simp [results, Tryz.results64, go_sem]
            go_simp
          · exact FIN.out y5 HG.out
        · have hix2 : ¬ ixN g.es e0 < m := by have := HLM.out; omega
          have HG := Lib.hid (insG_yes (g := g) (e := ⟨e0, e1, e2, e3⟩) (by simp [insOk, hv, hok, hix2, HLM.out, HLN.out, h12]))
          clear hix2
          have h12' : ((m : Int) == 12) = false := by simp; omega
          have hm12 : m ≤ 12 := by
            have h3 := hv
            simp only [validG, Bool.and_eq_true, decide_eq_true_eq] at h3
            have := h3.2
            have := HLM.out
            omega
          have HIX := Lib.hid (ixE_no hix)
          clear hno hv hok hix h12 FIN
          go_wp2_with (first
            | (go_at_call 106; refine (edgeOk_any ⟨e0, e1, e2, e3⟩ n _ (by omega) (by omega)).mono ?_; rw [HOK.out]; rintro e w' ⟨rfl, hb⟩; obtain ⟨y4, rfl⟩ := Kept.of _ hb)
            | (go_at_call 107; refine (implEdgeIx_rd _ (h.up (below_then hB2 (Kept.be _))) e0).mono ?_; rw [HIX.out]; rintro e w' ⟨rfl, hb⟩; obtain ⟨y5, rfl⟩ := Kept.of _ hb))
          clear hb HIX HOK
          go_loopw [7] (fun i wr => ∃ k : Nat, k ≤ m ∧ i = .int .i64 k ∧ k ≤ insK g.es e0 ∧ ∃ z : Kept w2, wr = z.W) (fun i _ => m - (intOf i).toNat)
          case atStart => exact ⟨0, Nat.zero_le _, rfl, Nat.zero_le _, y5, rfl⟩
          case round =>
            obtain ⟨k, hk, rfl, hks, z, rfl⟩ := hrel
            by_cases hlt : k < m
            · obtain ⟨b, o, rfl, hbo, x, hx, c0, _, _, _⟩ := edge_at I2.ov.reads HLM.out hlt
              have x0 := Kept.cell c0
              have hlt' : (k : Int) < m := by omega
              have hk0 : (0 : Int) ≤ (k : Int) := by omega
              obtain ⟨h1, h2⟩ := insK_step hx hks
              obtain ⟨xi, x_1, x_2, x_3⟩ := x
              dsimp only at x0 h1 h2
              clear c0 hx hbo
              by_cases hid : xi < e0
              · have h2' := h2 hid
                clear h1 h2
                go_wp2_with fail
                refine wp_region_k2 (by kernel_rfl) (by kernel_rfl) ?_
                repeat (go_big_quiet_step (fail))
                refine wpQuiet_nil ?_
                intro _ hw'
                obtain ⟨z2, rfl⟩ := hw'
                go_wp2
                go_roundw
                case rel => exact ⟨k + 1, by omega, by go_num, h2', z2, rfl⟩
                case measure => simp [intOf]; omega
              · have HKK := Lib.hid (h1 hid)
                have hid' : decide (xi < e0) = false := by simp; omega
                clear h1 h2 hks
                go_wp2_with fail
                refine wp_region_k2 (by kernel_rfl) (by kernel_rfl) ?_
                repeat (go_big_quiet_step (fail))
                refine wpQuiet_nil ?_
                intro _ hw'
                obtain ⟨z2, rfl⟩ := hw'
                go_wp2_with fail
                have hb3 : Below z2.W.heap.size z2.W (z2.W.alloc (.cells #[.int .i64 e0, .int .i64 e1, .int .i64 e2, .int .i64 e3] 90)) := (Below.refl _ _).alloc (Nat.le_refl _) _
                have hV : Blk (z2.W.alloc (.cells #[.int .i64 e0, .int .i64 e1, .int .i64 e2, .int .i64 e3] 90)) z2.W.heap.size 90 (ec ⟨e0, e1, e2, e3⟩).toArray := Blk.new _ _ _
                have I3 := (I2.below z2.be).below hb3
                have XX3 := (XX.below z2.be XX.lt).below hb3 (XX.below z2.be XX.lt).lt
                have XR3 := (XR.below z2.be XR.lt).below hb3 (XR.below z2.be XR.lt).lt
                have hB3 := below_then (below_then hB2 z2.be) hb3
                have hzz := z2.be.size
                have hz3 := hb3.size
                generalize (z2.W.alloc (.cells #[.int .i64 e0, .int .i64 e1, .int .i64 e2, .int .i64 e3] 90)) = w3 at *
                refine (insertE_any _ I3.ov.own.row (k := k) hk (by omega) (by omega) hV (fun e => by have := I3.ov.own.top _ e; omega) rfl (ec_one _) ecs_one').mono ?_
                rintro e w4 ⟨B4, d4, rfl, O4, g4⟩
                have t4 := Tch.of_grown g4 I3.ov.own
                have hne := own_ne I3.ov.own.row I3.ou.own.row (by decide)
                have U4 := I3.ou.grown g4 (fun q hq e => hne q e hq)
                have XX4 := XX3.tch t4 (.inr (Nat.le_refl _))
                have XR4 := XR3.tch t4 (.inl (by omega))
                have hB4 := below_tch hB3 t4 (by omega)
                have hz4 := t4.size
                rw [ecs_ins] at O4
                have V4 := RIs.of O4 (by omega)
                have U5 := U4.off XX4 (by decide) 1 (.slice B4 (m + 1) d4)
                have V5 := V4.off XX4 (by decide) 1 (.slice B4 (m + 1) d4)
                have X5 := XX4.set_ 1 (.slice B4 (m + 1) d4)
                have R5 := XR4.far (p := ⟨w1.heap.size, 1, none⟩) (by dsimp only; omega) (.slice B4 (m + 1) d4)
                have hB5 := hB4.setCell (p := ⟨w1.heap.size, 1, none⟩) (by dsimp only; omega) (.slice B4 (m + 1) d4)
                have x41 : w4.cell? ⟨w1.heap.size, 1, none⟩ = some (.slice (some ⟨b, o, none⟩) m d1) := by rw [XX4.cell]; rfl
                have x4f := XX4.frozen 1
                have x50 : (w4.setCell ⟨w1.heap.size, 1, none⟩ (.slice B4 (m + 1) d4)).cell? ⟨w1.heap.size, 0, none⟩ = some (.slice A1 n c1) := by rw [X5.cell]; rfl
                have x51 : (w4.setCell ⟨w1.heap.size, 1, none⟩ (.slice B4 (m + 1) d4)).cell? ⟨w1.heap.size, 1, none⟩ = some (.slice B4 (m + 1) d4) := by rw [X5.cell]; rfl
                have r50 : (w4.setCell ⟨w1.heap.size, 1, none⟩ (.slice B4 (m + 1) d4)).cell? ⟨w.heap.size + 1 + 1, 0, none⟩ = some (.slice none 0 0) := by rw [R5.cell]; rfl
                have r51 : (w4.setCell ⟨w1.heap.size, 1, none⟩ (.slice B4 (m + 1) d4)).cell? ⟨w.heap.size + 1 + 1, 1, none⟩ = some (.slice none 0 0) := by rw [R5.cell]; rfl
                have f50 := R5.frozen 0
                have f51 := R5.frozen 1
                have J5 : GIs (w4.setCell ⟨w1.heap.size, 1, none⟩ (.slice B4 (m + 1) d4)) w0.heap.size w4.heap.size A1 n c1 B4 (m + 1) d4 (g.vs.map iv) (ecs (g.es.take k ++ [⟨e0, e1, e2, e3⟩] ++ g.es.drop k)) := ⟨U5.wide (Nat.le_refl _) (by omega), V5⟩
                have hz5 : w4.heap.size = (w4.setCell ⟨w1.heap.size, 1, none⟩ (.slice B4 (m + 1) d4)).heap.size := by simp
                clear t4 g4 O4 U4 V4 U5 V5 X5 R5 XX4 XR4 XX3 XR3 I3 hb3 hV hne hB3 hB4
                go_wp2_with fail
                clear x41 x4f
                generalize w4.setCell ⟨w1.heap.size, 1, none⟩ (.slice B4 (m + 1) d4) = w5 at *
                have HZ := Lib.hid hz5
                clear hz5
                go_wp2_with fail
                refine bodyPost_ret (v := .tuple #[.agg #[.slice A1 n c1, .slice B4 (m + 1) d4], .bool true]) ?_ rfl ?_
                · simp [results, Tryz.results64, go_sem]
                  go_simp
                · rw [HG.out, HKK.out]
                  have := HZ.out
                  exact ⟨_, _, _, _, _, _, rfl, gis_ret J5 _ _ _ _ (by omega) (by omega) (by omega), below_ret hB5 _ _ _ (by omega)⟩
            · have HKK := Lib.hid (show insK g.es e0 = k by have := insK_le g.es e0; have := HLM.out; omega)
              have hlt' : ¬ (k : Int) < m := by omega
              have hdl : decide ((k : Int) < m) = false := by simp; omega
              clear hks
              go_wp2_with fail
              refine wp_region_k2 (by kernel_rfl) (by kernel_rfl) ?_
              repeat (go_big_quiet_step (fail))
              refine wpQuiet_nil ?_
              intro _ hw'
              obtain ⟨z2, rfl⟩ := hw'
              go_wp2_with fail
              have hb3 : Below z2.W.heap.size z2.W (z2.W.alloc (.cells #[.int .i64 e0, .int .i64 e1, .int .i64 e2, .int .i64 e3] 90)) := (Below.refl _ _).alloc (Nat.le_refl _) _
              have hV : Blk (z2.W.alloc (.cells #[.int .i64 e0, .int .i64 e1, .int .i64 e2, .int .i64 e3] 90)) z2.W.heap.size 90 (ec ⟨e0, e1, e2, e3⟩).toArray := Blk.new _ _ _
              have I3 := (I2.below z2.be).below hb3
              have XX3 := (XX.below z2.be XX.lt).below hb3 (XX.below z2.be XX.lt).lt
              have XR3 := (XR.below z2.be XR.lt).below hb3 (XR.below z2.be XR.lt).lt
              have hB3 := below_then (below_then hB2 z2.be) hb3
              have hzz := z2.be.size
              have hz3 := hb3.size
              generalize (z2.W.alloc (.cells #[.int .i64 e0, .int .i64 e1, .int .i64 e2, .int .i64 e3] 90)) = w3 at *
              refine (insertE_any _ I3.ov.own.row (k := k) hk (by omega) (by omega) hV (fun e => by have := I3.ov.own.top _ e; omega) rfl (ec_one _) ecs_one').mono ?_
              rintro e w4 ⟨B4, d4, rfl, O4, g4⟩
              have t4 := Tch.of_grown g4 I3.ov.own
              have hne := own_ne I3.ov.own.row I3.ou.own.row (by decide)
              have U4 := I3.ou.grown g4 (fun q hq e => hne q e hq)
              have XX4 := XX3.tch t4 (.inr (Nat.le_refl _))
              have XR4 := XR3.tch t4 (.inl (by omega))
              have hB4 := below_tch hB3 t4 (by omega)
              have hz4 := t4.size
              rw [ecs_ins] at O4
              have V4 := RIs.of O4 (by omega)
              have U5 := U4.off XX4 (by decide) 1 (.slice B4 (m + 1) d4)
              have V5 := V4.off XX4 (by decide) 1 (.slice B4 (m + 1) d4)
              have X5 := XX4.set_ 1 (.slice B4 (m + 1) d4)
              have R5 := XR4.far (p := ⟨w1.heap.size, 1, none⟩) (by dsimp only; omega) (.slice B4 (m + 1) d4)
              have hB5 := hB4.setCell (p := ⟨w1.heap.size, 1, none⟩) (by dsimp only; omega) (.slice B4 (m + 1) d4)
              have x41 : w4.cell? ⟨w1.heap.size, 1, none⟩ = some (.slice B1 m d1) := by rw [XX4.cell]; rfl
              have x4f := XX4.frozen 1
              have x50 : (w4.setCell ⟨w1.heap.size, 1, none⟩ (.slice B4 (m + 1) d4)).cell? ⟨w1.heap.size, 0, none⟩ = some (.slice A1 n c1) := by rw [X5.cell]; rfl
              have x51 : (w4.setCell ⟨w1.heap.size, 1, none⟩ (.slice B4 (m + 1) d4)).cell? ⟨w1.heap.size, 1, none⟩ = some (.slice B4 (m + 1) d4) := by rw [X5.cell]; rfl
              have r50 : (w4.setCell ⟨w1.heap.size, 1, none⟩ (.slice B4 (m + 1) d4)).cell? ⟨w.heap.size + 1 + 1, 0, none⟩ = some (.slice none 0 0) := by rw [R5.cell]; rfl
              have r51 : (w4.setCell ⟨w1.heap.size, 1, none⟩ (.slice B4 (m + 1) d4)).cell? ⟨w.heap.size + 1 + 1, 1, none⟩ = some (.slice none 0 0) := by rw [R5.cell]; rfl
              have f50 := R5.frozen 0
              have f51 := R5.frozen 1
              have J5 : GIs (w4.setCell ⟨w1.heap.size, 1, none⟩ (.slice B4 (m + 1) d4)) w0.heap.size w4.heap.size A1 n c1 B4 (m + 1) d4 (g.vs.map iv) (ecs (g.es.take k ++ [⟨e0, e1, e2, e3⟩] ++ g.es.drop k)) := ⟨U5.wide (Nat.le_refl _) (by omega), V5⟩
              have hz5 : w4.heap.size = (w4.setCell ⟨w1.heap.size, 1, none⟩ (.slice B4 (m + 1) d4)).heap.size := by simp
              clear t4 g4 O4 U4 V4 U5 V5 X5 R5 XX4 XR4 XX3 XR3 I3 hb3 hV hne hB3 hB4
              go_wp2_with fail
              clear x41 x4f
              generalize w4.setCell ⟨w1.heap.size, 1, none⟩ (.slice B4 (m + 1) d4) = w5 at *
              have HZ := Lib.hid hz5
              clear hz5
              go_wp2_with fail
              refine bodyPost_ret (v := .tuple #[.agg #[.slice A1 n c1, .slice B4 (m + 1) d4], .bool true]) ?_ rfl ?_
              · simp [results, Tryz.results64, go_sem]
                go_simp
              · rw [HG.out, HKK.out]
                have := HZ.out
                exact ⟨_, _, _, _, _, _, rfl, gis_ret J5 _ _ _ _ (by omega) (by omega) (by omega), below_ret hB5 _ _ _ (by omega)⟩
end Go.Proofs.YtomkgnamjfiocaaGreatDoor
namespace Go.Proofs.YtomkgnamjfiocaaGreatDoor
open Go.RowKit Go.ChangeShapes Go.WideShapes Go.ChangeAt Go.Deep
set_option linter.unusedVariables false
theorem reads_take {w : World} {B size n k : Nat} {A : Option Addr} {xs : List Value} (h : Reads w B size A n xs) (hk : k ≤ n) : Reads w B size A k (xs.take (k * size)) := by
  have hl := h.1
  have hm : k * size ≤ n * size := Nat.mul_le_mul_right _ hk
  refine ⟨by rw [List.length_take]; omega, fun hp => ?_⟩
  obtain ⟨ad, e, hb, hc⟩ := h.2 (by omega)
  refine ⟨ad, e, hb, fun j u hu => hc j u ?_⟩
  rw [List.getElem?_take] at hu
  split at hu
  · exact hu
  · cases hu
/-- What a cut behind k + 1 elements reads. -/
theorem reads_cut1 {w : World} {B size k r cap b o : Nat} {xs : List Value} (h : Reads w B size (some ⟨b, o, none⟩) (k + r + 1) xs) (hc : k + r + 1 ≤ cap) :
    ∃ A1, (if cap = k + 1 then (some ⟨b, o, none⟩ : Option Addr) else some ⟨b, o + (k + 1) * size, none⟩) = A1 ∧ Reads w B size A1 r (xs.drop ((k + 1) * size)) := by
  have := h.cut (k := k + 1) (cap := cap) (by omega) hc
  rw [Option.map_some, add_plain, show k + r + 1 - (k + 1) = r by omega] at this
  exact ⟨_, rfl, this⟩
set_option maxRecDepth 4000 in
set_option maxHeartbeats 2000000 in
theorem specDeleteEdge_is (w : World) {A B : Option Addr} {n c m d : Nat} {g : G} (h : GRd w A n B m g) (i : Int) (hcap : m ≤ d) :
    Calls Tryz.prog 113 #[.agg #[.slice A n c, .slice B m d], .int .i64 i] w fun e w' => ∃ A2 n2 c2 B2 m2 d2, e = .returned (.tuple #[.agg #[.slice A2 n2 c2, .slice B2 m2 d2], .bool (delG g i).2]) ∧ GIs w' w.heap.size w'.heap.size A2 n2 c2 B2 m2 d2 ((delG g i).1.vs.map iv) (ecs (delG g i).1.es) ∧ Below w.heap.size w w' := by
  have hn := h.bn
  have hm := h.bm
  have lm := h.gr.lm
  have HLM := Lib.hid lm
  clear lm
  go_enter Tryz.func113, Tryz.ntmps113
  go_wp2_with fail
  have hB0 : Below w.heap.size w ((w.alloc (.cells #[.slice A n c, .slice B m d] 27)).alloc (.cells #[.slice none 0 0, .slice none 0 0] 27)) := ((Below.refl _ _).alloc (Nat.le_refl _) _).alloc (by simp) _
  have kA : ((w.alloc (.cells #[.slice A n c, .slice B m d] 27)).alloc (.cells #[.slice none 0 0, .slice none 0 0] 27)).cell? ⟨w.heap.size, 0, none⟩ = some (.slice A n c) := by go_simp
  have kB : ((w.alloc (.cells #[.slice A n c, .slice B m d] 27)).alloc (.cells #[.slice none 0 0, .slice none 0 0] 27)).cell? ⟨w.heap.size, 1, none⟩ = some (.slice B m d) := by go_simp
  have r0 : ((w.alloc (.cells #[.slice A n c, .slice B m d] 27)).alloc (.cells #[.slice none 0 0, .slice none 0 0] 27)).cell? ⟨w.heap.size + 1, 0, none⟩ = some (.slice none 0 0) := by go_simp
  have r1 : ((w.alloc (.cells #[.slice A n c, .slice B m d] 27)).alloc (.cells #[.slice none 0 0, .slice none 0 0] 27)).cell? ⟨w.heap.size + 1, 1, none⟩ = some (.slice none 0 0) := by go_simp
  have f0 : ((w.alloc (.cells #[.slice A n c, .slice B m d] 27)).alloc (.cells #[.slice none 0 0, .slice none 0 0] 27)).frozen? ⟨w.heap.size + 1, 0, none⟩ = false := by go_simp
  have f1 : ((w.alloc (.cells #[.slice A n c, .slice B m d] 27)).alloc (.cells #[.slice none 0 0, .slice none 0 0] 27)).frozen? ⟨w.heap.size + 1, 1, none⟩ = false := by go_simp
  have hz0 : w.heap.size + 1 < ((w.alloc (.cells #[.slice A n c, .slice B m d] 27)).alloc (.cells #[.slice none 0 0, .slice none 0 0] 27)).heap.size := by simp
  generalize ((w.alloc (.cells #[.slice A n c, .slice B m d] 27)).alloc (.cells #[.slice none 0 0, .slice none 0 0] 27)) = w0 at *
  refine (specEdgeIx_rd _ (h.up hB0) i).mono ?_
  rintro e w1 ⟨rfl, hb1⟩
  have hB1 := below_then hB0 hb1
  have hz1 := hb1.size
  have kA1 := cell_keep hb1 kA
  have kB1 := cell_keep hb1 kB
  have r01 := cell_keep hb1 r0
  have r11 := cell_keep hb1 r1
  have f01 := frozen_keep hb1 r0 f0
  have f11 := frozen_keep hb1 r1 f1
  have hx1 : w.heap.size + 1 < w1.heap.size := by omega
  clear kA kB r0 r1 f0 f1
  go_wp2_with fail
  refine (specValid_rd _ (h.up hB1)).mono ?_
  rintro e w2 ⟨rfl, hb2⟩
  have hB2 := below_then hB1 hb2
  have hz2 := hb2.size
  have kA2 := cell_keep hb2 kA1
  have kB2 := cell_keep hb2 kB1
  have r02 := cell_keep hb2 r01
  have r12 := cell_keep hb2 r11
  have f02 := frozen_keep hb2 r01 f01
  have f12 := frozen_keep hb2 r11 f11
  have hx2 : w.heap.size + 1 < w2.heap.size := by omega
  clear kA1 kB1 r01 r11 f01 f11 hb1 hb2 hB0 hB1
  have hno : delOk g i = false → Hid (delG g i = (g, false)) := fun h => Lib.hid (delG_no h)
  cases hv : validG g
  · have HG := hno (by simp [delOk, hv])
    clear hno hv
    go_wp2_with fail
    refine (l3Copy_is _ (h.up hB2)).mono ?_
    rintro e w3 ⟨A1, c1, B1, d1, rfl, I3, hb3⟩
    have hB3 := below_then hB2 hb3
    have hz3 := hb3.size
    have r03 := cell_keep hb3 r02
    have r13 := cell_keep hb3 r12
    have f03 := frozen_keep hb3 r02 f02
    have f13 := frozen_keep hb3 r12 f12
    have hx3 : w.heap.size + 1 < w3.heap.size := by omega
    clear r02 r12 f02 f12 hb3 kA2 kB2
    go_wp2_with fail
    refine bodyPost_ret (v := .tuple #[.agg #[.slice A1 n c1, .slice B1 m d1], .bool false]) ?_ rfl ?_
    · simp [results, Tryz.results113, go_sem]
      go_simp
    · rw [HG.out]
      exact ⟨_, _, _, _, _, _, rfl, gis_ret I3 _ _ _ _ (by omega) (by omega) (by omega), below_ret hB3 _ _ _ (by omega)⟩
  · by_cases hix : ixN g.es i < g.es.length
    rotate_left
    · have HG := hno (by simp [delOk, hix])
      rw [ixE_no hix]
      clear hno hv hix
      go_wp2_with fail
      refine (l3Copy_is _ (h.up hB2)).mono ?_
      rintro e w3 ⟨A1, c1, B1, d1, rfl, I3, hb3⟩
      have hB3 := below_then hB2 hb3
      have hz3 := hb3.size
      have r03 := cell_keep hb3 r02
      have r13 := cell_keep hb3 r12
      have f03 := frozen_keep hb3 r02 f02
      have f13 := frozen_keep hb3 r12 f12
      have hx3 : w.heap.size + 1 < w3.heap.size := by omega
      clear r02 r12 f02 f12 hb3 kA2 kB2
      go_wp2_with fail
      refine bodyPost_ret (v := .tuple #[.agg #[.slice A1 n c1, .slice B1 m d1], .bool false]) ?_ rfl ?_
      · simp [results, Tryz.results113, go_sem]
        go_simp
      · rw [HG.out]
        exact ⟨_, _, _, _, _, _, rfl, gis_ret I3 _ _ _ _ (by omega) (by omega) (by omega), below_ret hB3 _ _ _ (by omega)⟩
    · have HG := Lib.hid (delG_yes (g := g) (i := i) (by simp [delOk, hv, hix]))
      rw [ixE_yes hix]
      obtain ⟨k, hk⟩ : ∃ k, ixN g.es i = k := ⟨_, rfl⟩
      rw [hk]
      rw [hk] at HG hix
      have hlm := HLM.out
      obtain ⟨r, rfl⟩ : ∃ r, m = k + r + 1 := ⟨m - k - 1, by omega⟩
      clear hno hv hix hk hlm
      have lmr := HLM.out
      obtain ⟨b, o, rfl, had, _⟩ := edge_at (k := 0) h.gr.re lmr (by omega)
      clear lmr
      have hx2a : w.heap.size < w2.heap.size := by omega
      have q1 : Small (0 + n) := small_of (by omega)
      have hI := (h.up hB2).ints
      have bA : Below w2.heap.size w2 (w2.alloc (.cells #[] 3)) := (Below.refl _ _).alloc (Nat.le_refl _) _
      have oA := own_made (w := w2) (base := w2.heap.size) 3 1 (Nat.le_refl _)
      have rA := (hI.up bA).rd
      have sA := bA.size
      go_wp2_with (at_builtin; go_loud (refine fr_plain _ app_int (by decide) w2.heap.size (.tmp 20) (.tmp 22) rfl rfl _ rfl oA _ _ _ _ _ rfl rA (iv_one _) q1 sA ?_; intro v3 w3 O3 hb30; obtain ⟨A3, c3, rfl, _⟩ := own_form O3; have I30 := RIs.of O3 hn; have hb3 := below_then bA hb30; have hB3 := below_then hB2 hb3; have hz3 := hb3.size; have hx3 : w.heap.size + 1 < w3.heap.size := (by omega); have hx3a : w.heap.size < w3.heap.size := (by omega); have kB3 := cell_keep hb3 kB2; have r03 := cell_keep hb3 r02; have r13 := cell_keep hb3 r12; have f03 := frozen_keep hb3 r02 f02; have f13 := frozen_keep hb3 r12 f12; clear hb30 hb3 O3 bA oA rA sA))
      have hb4 : Below w3.heap.size w3 (w3.alloc (.cells #[.slice A3 n c3, .slice none 0 0] 27)) := (Below.refl _ _).alloc (Nat.le_refl _) _
      have X4 := Blk.new w3 27 #[.slice A3 n c3, .slice none 0 0]
      generalize (w3.alloc (.cells #[.slice A3 n c3, .slice none 0 0] 27)) = w4 at *
      have hB4 := below_then hB3 hb4
      have hz4 := X4.lt
      have kB4 := cell_keep hb4 kB3
      have r04 := cell_keep hb4 r03
      have r14 := cell_keep hb4 r13
      have f04 := frozen_keep hb4 r03 f03
      have f14 := frozen_keep hb4 r13 f13
      have I40 := I30.below hb4
      have q2 : Small (0 + k) := small_of (by omega)
      have q3 : Small (k + r) := small_of (by omega)
      have bE : Below w4.heap.size w4 (w4.alloc (.cells #[] 90)).drew := ((Below.refl _ _).alloc (Nat.le_refl _) _).drew
      have oE := own_drew (own_made (w := w4) (base := w4.heap.size) 90 4 (Nat.le_refl _))
      have sE := bE.size
      have rW := (h.up hB4).edges.rd
      have rE := reads_up (reads_take rW (k := k) (by omega)) bE
      rw [ecs_take] at rE
      obtain ⟨A1, hA1, rD⟩ := reads_cut1 rW hcap
      rw [ecs_drop] at rD
      have hkd : k ≤ d := by omega
      have hkd1 : k + 1 ≤ d := by omega
      have hkn1 : k + 1 ≤ k + r + 1 := by omega
      have hk0 : (0 : Int) ≤ (k : Int) + 1 := by omega
      have hkr : (k : Int) ≤ (k : Int) + r := by omega
      have hw1 : IntKind.i64.wrap ((k : Int) + 1) = (k : Int) + 1 := by rw [IntKind.wrap_i64]; omega
      have hkb : (k : Int) + 1 ≤ (k : Int) + r + 1 := by omega
      have kB5 := cell_keep bE kB4
      clear kB2 kB3 r02 r03 r12 r13 f02 f03 f12 f13 hb4 hB2 hB3 rW had hI kA2 I30
      go_region_held3 (fun w' => w'.cell? ⟨w.heap.size, 1, none⟩ = some (.slice (some ⟨b, o, none⟩) (k + r + 1) d)) (first | exact kB4 | exact kB5 | exact kB6 | exact kB7 | exact (World.cell?_setCell_other _ _ _ _ (by intro e; injection e; omega)).trans kB7) (first
        | (refine ap_step _ app_edge (by decide) w4.heap.size (.tmp 30) (.tmp 35) rfl rfl _ _ _ rfl O6 _ _ _ _ _ rfl rD6 (ecs_one _) q3 hb6.size ?_; intro v7 w7 O7 hg7 hat7; clear hat7; have hb7 := below_grown_own hb6 O6 hg7 (Nat.le_refl _) hb6.size; obtain ⟨B7, d7, rfl, _⟩ := own_form O7; have kB7 := cell_keep hb7 kB4; have X7 := X4.below hb7 hz4; have x71 : w7.cell? ⟨w3.heap.size, 1, none⟩ = some (.slice none 0 0) := (by rw [X7.cell]; rfl); have x7f := X7.frozen 1)
        | (refine fr_step _ app_edge (by decide) w4.heap.size (.tmp 25) (.tmp 29) rfl rfl _ rfl oE _ _ _ _ _ rfl rE (ecs_one _) q2 sE ?_; intro v6 w6 O6 hb60; have hb6 := below_then bE hb60; obtain ⟨B6, d6, rfl, _⟩ := own_form O6; have rD6 := reads_up rD hb6; have kB6 := cell_keep hb6 kB4))
      have hB7 := below_then hB4 hb7
      have z7 := hb7.size
      have I7 := (I40.below hb7).far (p := ⟨w3.heap.size, 1, none⟩) (fun q hq hqe => by have := I40.own.top q hq; simp at hqe; omega) (.slice B7 (k + r) d7)
      rw [← ecs_append] at O7
      have V7 := (RIs.of O7 (by omega)).setB (p := ⟨w3.heap.size, 1, none⟩) (by dsimp only; omega) (.slice B7 (k + r) d7)
      have J7 : GIs (w7.setCell ⟨w3.heap.size, 1, none⟩ (.slice B7 (k + r) d7)) w2.heap.size w7.heap.size A3 n c3 B7 (k + r) d7 (g.vs.map iv) (ecs (g.es.take k ++ g.es.drop (k + 1))) := ⟨I7.wide (Nat.le_refl _) (by omega), V7.wide (by omega) (Nat.le_refl _)⟩
      have hB8 := hB7.setCell (p := ⟨w3.heap.size, 1, none⟩) (by dsimp only; omega) (.slice B7 (k + r) d7)
      have x80 : (w7.setCell ⟨w3.heap.size, 1, none⟩ (.slice B7 (k + r) d7)).cell? ⟨w3.heap.size, 0, none⟩ = some (.slice A3 n c3) := by rw [(X7.set_ 1 _).cell]; rfl
      have x81 : (w7.setCell ⟨w3.heap.size, 1, none⟩ (.slice B7 (k + r) d7)).cell? ⟨w3.heap.size, 1, none⟩ = some (.slice B7 (k + r) d7) := by rw [(X7.set_ 1 _).cell]; rfl
      have e8 : ∀ b o, b ≠ w3.heap.size → (w7.setCell ⟨w3.heap.size, 1, none⟩ (.slice B7 (k + r) d7)).cell? ⟨b, o, none⟩ = w7.cell? ⟨b, o, none⟩ := fun b o hb => World.cell?_setCell_other _ _ _ _ (by intro e; injection e; omega)
      have r8 := (e8 _ _ (by omega)).trans (cell_keep hb7 r04)
      have r8b := (e8 _ _ (by omega)).trans (cell_keep hb7 r14)
      have f8 : (w7.setCell ⟨w3.heap.size, 1, none⟩ (.slice B7 (k + r) d7)).frozen? ⟨w.heap.size + 1, 0, none⟩ = false := (World.frozen?_setCell ..).trans (frozen_keep hb7 r04 f04)
      have f8b : (w7.setCell ⟨w3.heap.size, 1, none⟩ (.slice B7 (k + r) d7)).frozen? ⟨w.heap.size + 1, 1, none⟩ = false := (World.frozen?_setCell ..).trans (frozen_keep hb7 r14 f14)
      have hz8 : w7.heap.size = (w7.setCell ⟨w3.heap.size, 1, none⟩ (.slice B7 (k + r) d7)).heap.size := by simp
      have hz3b := hz3
      clear hg7 hb7 hb6 hb60 e8 X7 X4 O6 O7 I40 I7 V7 kB4 kB5 kB6 kB7 x71 x7f r04 r14 f04 f14 rD rD6 rE oE bE sE hw1 hB7 hB4 h
      generalize w7.setCell ⟨w3.heap.size, 1, none⟩ (.slice B7 (k + r) d7) = w8 at *
      have HZ := Lib.hid hz8
      clear hz8
      go_wp2_with fail
      refine bodyPost_ret (v := .tuple #[.agg #[.slice A3 n c3, .slice B7 (k + r) d7], .bool true]) ?_ rfl ?_
      · simp [results, Tryz.results113, go_sem]
        go_simp
      · rw [HG.out]
        have hz8 := HZ.out
        exact ⟨_, _, _, _, _, _, rfl, gis_ret J7 _ _ _ _ (by omega) (by omega) (by omega), below_ret hB8 _ _ _ (by omega)⟩
end Go.Proofs.YtomkgnamjfiocaaGreatDoor
namespace Go.Proofs.YtomkgnamjfiocaaGreatDoor
open Go.RowKit Go.ChangeShapes Go.WideShapes Go.ChangeAt Go.Deep
set_option linter.unusedVariables false
/-- What a cut behind k elements reads. -/
theorem reads_cut0 {w : World} {B size k n cap b o : Nat} {xs : List Value} (h : Reads w B size (some ⟨b, o, none⟩) n xs) (hk : k ≤ n) (hc : n ≤ cap) :
    ∃ A1, (if cap = k then (some ⟨b, o, none⟩ : Option Addr) else some ⟨b, o + k * size, none⟩) = A1 ∧ Reads w B size A1 (n - k) (xs.drop (k * size)) := by
  have := h.cut (k := k) (cap := cap) hk hc
  rw [Option.map_some, add_plain] at this
  exact ⟨_, rfl, this⟩
theorem reads_cutv {w : World} {B size k n cap : Nat} {A : Option Addr} {xs : List Value} (h : Reads w B size A n xs) (hk : k ≤ n) (hc : n ≤ cap) :
    ∃ A1, (if cap = k then A else A.map (fun x => x.add (k * size))) = A1 ∧ Reads w B size A1 (n - k) (xs.drop (k * size)) := ⟨_, rfl, h.cut hk hc⟩
theorem reads_newW {w : World} {e : TypeId} {size m : Nat} (cs : Array Value) (h : cs.size = m * size) : Reads (w.alloc (.cells cs e)) (w.alloc (.cells cs e)).heap.size size (some ⟨w.heap.size, 0, none⟩) m cs.toList :=
  (reads_new (e := e) cs h).more (by simp)
theorem ap_stepW {P : Program} (w : World) {t e : TypeId} {z : Value} {size bytes : Nat} (T : AppTy P t e z size bytes) (hb64 : bytes ≤ 64) (base : Nat) {ops : Array Oper} {o : Oper} {a : Act} {K : Act → World → Prop} {Q : Exit → Act → World → Prop} {E : Prop} (s x : Operand)
    (hgd : o.guard = none) (ho : o.op = .call { callee := .builtin .append, args := #[s, x], argTypes := #[t, t] })
    (v : Value) (n : Nat) (xs : List Value) (hs : a.eval s = v) (hown : w.ownsRow base e size v n xs)
    (A : Option Addr) (m c : Nat) (news : List Value) (hx : a.eval x = .slice A m c) (hr : Reads w w.heap.size size A m news) (h1 : ∀ u ∈ news, u.oneCell' = true)
    (hsm : Small (n + m)) (hbase : base ≤ w.heap.size)
    (h : ∀ v' w', w'.ownsRow base e size v' (n + m) (xs ++ news) → w.grownBy w' v.ownBlock → (v'.ownBlock = v.ownBlock ∨ v'.ownBlock = some w.heap.size) → K (a.put o.dst v') w') :
    if Region.wanted o (yielded ops a.tmps) = true then Oper.wp P o a w K Q else E :=
  ap_step w T hb64 base s x hgd ho v n xs hs hown w.heap.size A m c news hx hr h1 hsm hbase h
set_option maxRecDepth 4000 in
set_option maxHeartbeats 4000000 in
theorem specInsertEdge_is (w : World) {A B : Option Addr} {n c m d : Nat} {g : G} (h : GRd w A n B m g) (e : E) (hcap : m ≤ d) :
    Calls Tryz.prog 112 #[.agg #[.slice A n c, .slice B m d], .agg #[.int .i64 e.id, .int .i64 e.fr, .int .i64 e.to, .int .i64 e.lb]] w fun r w' => ∃ A2 n2 c2 B2 m2 d2, r = .returned (.tuple #[.agg #[.slice A2 n2 c2, .slice B2 m2 d2], .bool (insG g e).2]) ∧ GIs w' w.heap.size w'.heap.size A2 n2 c2 B2 m2 d2 ((insG g e).1.vs.map iv) (ecs (insG g e).1.es) ∧ Below w.heap.size w w' := by
  have hn := h.bn
  have hm := h.bm
  have lm := h.gr.lm
  have ln := h.gr.ln
  have HLM := Lib.hid lm
  have HLN := Lib.hid ln
  clear lm ln
  obtain ⟨e0, e1, e2, e3⟩ := e
  dsimp only
  go_enter Tryz.func112, Tryz.ntmps112
  go_wp2_with fail
  have hB0 : Below w.heap.size w (((w.alloc (.cells #[.slice A n c, .slice B m d] 27)).alloc (.cells #[.int .i64 e0, .int .i64 e1, .int .i64 e2, .int .i64 e3] 90)).alloc (.cells #[.slice none 0 0, .slice none 0 0] 27)) := (((Below.refl _ _).alloc (Nat.le_refl _) _).alloc (by simp) _).alloc (by simp; omega) _
  have XG := ((Blk.new w 27 #[.slice A n c, .slice B m d]).alloc (.cells #[.int .i64 e0, .int .i64 e1, .int .i64 e2, .int .i64 e3] 90)).alloc (.cells #[.slice none 0 0, .slice none 0 0] 27)
  have XE := (Blk.new (w.alloc (.cells #[.slice A n c, .slice B m d] 27)) 90 #[.int .i64 e0, .int .i64 e1, .int .i64 e2, .int .i64 e3]).alloc (.cells #[.slice none 0 0, .slice none 0 0] 27)
  have XR := Blk.new ((w.alloc (.cells #[.slice A n c, .slice B m d] 27)).alloc (.cells #[.int .i64 e0, .int .i64 e1, .int .i64 e2, .int .i64 e3] 90)) 27 #[.slice none 0 0, .slice none 0 0]
  simp only [World.size_alloc] at XE XR
  generalize (((w.alloc (.cells #[.slice A n c, .slice B m d] 27)).alloc (.cells #[.int .i64 e0, .int .i64 e1, .int .i64 e2, .int .i64 e3] 90)).alloc (.cells #[.slice none 0 0, .slice none 0 0] 27)) = w0 at *
  have hz0 := XR.lt
  have kA := XG.kc (v := .slice A n c) 0 rfl
  have kB := XG.kc (v := .slice B m d) 1 rfl
  have k0 := XE.kc (v := .int .i64 e0) 0 rfl
  have k1 := XE.kc (v := .int .i64 e1) 1 rfl
  have k2 := XE.kc (v := .int .i64 e2) 2 rfl
  have k3 := XE.kc (v := .int .i64 e3) 3 rfl
  have r0 := XR.kc (v := .slice none 0 0) 0 rfl
  have r1 := XR.kc (v := .slice none 0 0) 1 rfl
  have f0 := XR.kf 0
  have f1 := XR.kf 1
  refine (specValid_rd _ (h.up hB0)).mono ?_
  rintro e w3 ⟨rfl, hb3⟩
  obtain ⟨y, rfl⟩ := Kept.fst hb3
  clear hb3
  have hno : insOk g ⟨e0, e1, e2, e3⟩ = false → Hid (insG g ⟨e0, e1, e2, e3⟩ = (g, false)) := fun h => Lib.hid (insG_no h)
  cases hv : validG g
  · have HG := hno (by simp [insOk, hv])
    clear hno hv
    go_wp2_with (go_at_call 68; refine (l3Copy_is _ (h.up (below_then hB0 (Kept.be _)))).mono ?_; rintro e w' ⟨A1, c1, B1, d1, rfl, I3, hb3⟩; have hlo := hb3.size; have hla := (Kept.be y).size; obtain ⟨y3, rfl⟩ := Kept.of _ hb3; clear hb3)
    refine bodyPost_ret (v := .tuple #[.agg #[.slice A1 n c1, .slice B1 m d1], .bool false]) ?_ rfl ?_
    · simp [results, Tryz.results112, go_sem]
      go_simp
    · rw [HG.out]
      exact ⟨_, _, _, _, _, _, rfl, gis_ret I3 _ _ _ _ (by omega) (by omega) (by omega), below_ret (below_then hB0 (Kept.be _)) _ _ _ (by omega)⟩
  · cases hok : okE n ⟨e0, e1, e2, e3⟩
    · have HG := hno (by simp [insOk, hok, HLN.out])
      have HOK := Lib.hid hok
      clear hno hv hok
      go_wp2_with (first
        | (go_at_call 111; refine (l3Edge_any A B n c m d ⟨e0, e1, e2, e3⟩ _ (by omega)).mono ?_; rw [HOK.out]; rintro e w' ⟨rfl, hb⟩; obtain ⟨y4, rfl⟩ := Kept.of _ hb; clear hb)
        | (go_at_call 68; refine (l3Copy_is _ (h.up (below_then hB0 (Kept.be _)))).mono ?_; rintro e w' ⟨A1, c1, B1, d1, rfl, I3, hb3⟩; have hlo := hb3.size; have hla := (Kept.be y4).size; obtain ⟨y3, rfl⟩ := Kept.of _ hb3; clear hb3))
      refine bodyPost_ret (v := .tuple #[.agg #[.slice A1 n c1, .slice B1 m d1], .bool false]) ?_ rfl ?_
      · simp [results, Tryz.results112, go_sem]
        go_simp
      · rw [HG.out]
        exact ⟨_, _, _, _, _, _, rfl, gis_ret I3 _ _ _ _ (by omega) (by omega) (by omega), below_ret (below_then hB0 (Kept.be _)) _ _ _ (by omega)⟩
    · have HOK := Lib.hid hok
      by_cases hix : ixN g.es e0 < g.es.length
      · have HG := hno (by simp [insOk, hix])
        have HIX := Lib.hid (ixE_yes hix)
        clear hno hv hok hix
        go_wp2_with (first
          | (go_at_call 111; refine (l3Edge_any A B n c m d ⟨e0, e1, e2, e3⟩ _ (by omega)).mono ?_; rw [HOK.out]; rintro e w' ⟨rfl, hb⟩; obtain ⟨y4, rfl⟩ := Kept.of _ hb; clear hb)
          | (go_at_call 89; refine (specEdgeIx_rd _ (h.up (below_then hB0 (Kept.be _))) e0).mono ?_; rw [HIX.out]; rintro e w' ⟨rfl, hb⟩; obtain ⟨y5, rfl⟩ := Kept.of _ hb; clear hb)
          | (go_at_call 68; refine (l3Copy_is _ (h.up (below_then hB0 (Kept.be _)))).mono ?_; rintro e w' ⟨A1, c1, B1, d1, rfl, I3, hb3⟩; have hlo := hb3.size; have hla := (Kept.be y5).size; obtain ⟨y3, rfl⟩ := Kept.of _ hb3; clear hb3))
        refine bodyPost_ret (v := .tuple #[.agg #[.slice A1 n c1, .slice B1 m d1], .bool false]) ?_ rfl ?_
        · simp [results, Tryz.results112, go_sem]
          go_simp
        · rw [HG.out]
          exact ⟨_, _, _, _, _, _, rfl, gis_ret I3 _ _ _ _ (by omega) (by omega) (by omega), below_ret (below_then hB0 (Kept.be _)) _ _ _ (by omega)⟩
      · have HIX := Lib.hid (ixE_no hix)
        by_cases h12 : m = 12
        · have HG := hno (by simp [insOk, HLM.out, h12])
          subst h12
          clear hno hv hok hix
          go_wp2_with (first
            | (go_at_call 111; refine (l3Edge_any A B n c 12 d ⟨e0, e1, e2, e3⟩ _ (by omega)).mono ?_; rw [HOK.out]; rintro e w' ⟨rfl, hb⟩; obtain ⟨y4, rfl⟩ := Kept.of _ hb; clear hb)
            | (go_at_call 89; refine (specEdgeIx_rd _ (h.up (below_then hB0 (Kept.be _))) e0).mono ?_; rw [HIX.out]; rintro e w' ⟨rfl, hb⟩; obtain ⟨y5, rfl⟩ := Kept.of _ hb; clear hb)
            | (go_at_call 68; refine (l3Copy_is _ (h.up (below_then hB0 (Kept.be _)))).mono ?_; rintro e w' ⟨A1, c1, B1, d1, rfl, I3, hb3⟩; have hlo := hb3.size; have hla := (Kept.be y5).size; obtain ⟨y3, rfl⟩ := Kept.of _ hb3; clear hb3))
          refine bodyPost_ret (v := .tuple #[.agg #[.slice A1 n c1, .slice B1 12 d1], .bool false]) ?_ rfl ?_
          · simp [results, Tryz.results112, go_sem]
            go_simp
          · rw [HG.out]
            exact ⟨_, _, _, _, _, _, rfl, gis_ret I3 _ _ _ _ (by omega) (by omega) (by omega), below_ret (below_then hB0 (Kept.be _)) _ _ _ (by omega)⟩
        · have hix2 : ¬ ixN g.es e0 < m := by have := HLM.out; omega
          have HG := Lib.hid (insG_yes (g := g) (e := ⟨e0, e1, e2, e3⟩) (by simp [insOk, hv, hok, hix2, HLM.out, HLN.out, h12]))
          clear hix2
          have h12' : ((m : Int) == 12) = false := by simp; omega
          have hm12 : m ≤ 12 := by
            have h3 := hv
            simp only [validG, Bool.and_eq_true, decide_eq_true_eq] at h3
            have := h3.2
            have := HLM.out
            omega
          clear hno hv hok hix h12
          go_wp2_with (first
            | (go_at_call 111; refine (l3Edge_any A B n c m d ⟨e0, e1, e2, e3⟩ _ (by omega)).mono ?_; rw [HOK.out]; rintro e w' ⟨rfl, hb⟩; obtain ⟨y4, rfl⟩ := Kept.of _ hb; clear hb)
            | (go_at_call 89; refine (specEdgeIx_rd _ (h.up (below_then hB0 (Kept.be _))) e0).mono ?_; rw [HIX.out]; rintro e w' ⟨rfl, hb⟩; obtain ⟨y5, rfl⟩ := Kept.of _ hb; clear hb))
          clear HIX HOK
          have cB := kB ⟨w0, Below.refl _ _⟩
          have c0 := k0 ⟨w0, Below.refl _ _⟩
          have c1 := k1 ⟨w0, Below.refl _ _⟩
          have c2 := k2 ⟨w0, Below.refl _ _⟩
          have c3 := k3 ⟨w0, Below.refl _ _⟩
          dsimp only at cB c0 c1 c2 c3
          go_loopw [6] (fun i wr => ∃ k : Nat, k ≤ m ∧ i = .int .i64 k ∧ k ≤ insK g.es e0 ∧ ∃ z : Kept w0, wr = z.W) (fun i _ => m - (intOf i).toNat)
          case atStart => exact ⟨0, Nat.zero_le _, rfl, Nat.zero_le _, y5, rfl⟩
          case round =>
            obtain ⟨k, hk, rfl, hks, z, rfl⟩ := hrel
            by_cases hlt : k < m
            · obtain ⟨b, o, rfl, hbo, x, hx, cc, _, _, _⟩ := edge_at (h.up hB0).edges.rd HLM.out hlt
              have x0 := Kept.cell cc
              have hlt' : (k : Int) < m := by omega
              have hk0 : (0 : Int) ≤ (k : Int) := by omega
              obtain ⟨h1, h2⟩ := insK_step hx hks
              obtain ⟨xi, x_1, x_2, x_3⟩ := x
              dsimp only at x0 h1 h2
              clear cc hx hbo
              by_cases hid : xi < e0
              · have h2' := h2 hid
                clear h1 h2
                go_wp2_with fail
                refine wp_region_k2 (by kernel_rfl) (by kernel_rfl) ?_
                repeat (go_big_quiet_step (fail))
                refine wpQuiet_nil ?_
                intro _ hw'
                obtain ⟨z2, rfl⟩ := hw'
                go_wp2
                go_roundw
                case rel => exact ⟨k + 1, by omega, by go_num, h2', z2, rfl⟩
                case measure => simp [intOf]; omega
              · have HKK := Lib.hid (h1 hid)
                have hid' : decide (xi < e0) = false := by simp; omega
                clear h1 h2 hks
                go_wp2_with fail
                refine wp_region_k2 (by kernel_rfl) (by kernel_rfl) ?_
                repeat (go_big_quiet_step (fail))
                refine wpQuiet_nil ?_
                intro _ hw'
                obtain ⟨z2, rfl⟩ := hw'
                clear x0 hid hid'
                have hx2a : w.heap.size < z2.W.heap.size := by have := z2.be.size; omega
                have q1 : Small (0 + n) := small_of (by omega)
                have bA : Below z2.W.heap.size z2.W (z2.W.alloc (.cells #[] 3)) := (Below.refl _ _).alloc (Nat.le_refl _) _
                have oA := own_made (w := z2.W) (base := z2.W.heap.size) 3 1 (Nat.le_refl _)
                have rA := (h.up (below_then (below_then hB0 z2.be) bA)).ints.rd
                have sA := bA.size
                have kA2 := kA z2
                go_wp2_with (at_builtin; go_loud (refine fr_plain _ app_int (by decide) z2.W.heap.size (.tmp 50) (.tmp 52) rfl rfl _ rfl oA _ _ _ _ _ rfl rA (iv_one _) q1 sA ?_; intro v3 w3 O3 hb30; obtain ⟨A3, cA, rfl, _⟩ := own_form O3; have I30 := RIs.of O3 hn; have hb3 := below_then bA hb30; have hz3 := hb3.size))
                clear hb30 O3 bA oA rA sA kA2
                have hb4 : Below w3.heap.size w3 (w3.alloc (.cells #[.slice A3 n cA, .slice none 0 0] 27)) := (Below.refl _ _).alloc (Nat.le_refl _) _
                have X4 := Blk.new w3 27 #[.slice A3 n cA, .slice none 0 0]
                generalize (w3.alloc (.cells #[.slice A3 n cA, .slice none 0 0] 27)) = w4 at *
                have hbz := z2.be
                have hb04 : Below w0.heap.size w0 w4 := below_then (below_then hbz hb3) hb4
                have hB4 := below_then hB0 hb04
                have s04 := hb04.size
                have hz4 := X4.lt
                have hzz := z2.be.size
                have I40 := I30.below hb4
                have q2 : Small (0 + k) := small_of (by omega)
                have q3 : Small (k + 1) := small_of (by omega)
                have q4 : Small (k + 1 + (m - k)) := small_of (by omega)
                have rW := (h.up hB4).edges.rd
                have rE := reads_take rW (k := k) (by omega)
                rw [ecs_take] at rE
                obtain ⟨A1, hA1, rD⟩ := reads_cut0 rW (k := k) (by omega) hcap
                rw [ecs_drop] at rD
                have hkd : k ≤ d := by omega
                have hkm : (k : Int) ≤ (m : Int) := by omega
                have hk0 : (0 : Int) ≤ (k : Int) := by omega
                have LIM := fun w' (hb : Below w0.heap.size w0 w') => And.intro (cell_keep hb cB) (And.intro (cell_keep hb c0) (And.intro (cell_keep hb c1) (And.intro (cell_keep hb c2) (cell_keep hb c3))))
                have HL := Lib.hid LIM
                have VB := (Blk.new (w4.alloc (.cells #[] 90)) 90 #[.int .i64 e0, .int .i64 e1, .int .i64 e2, .int .i64 e3]).drew
                have VC := ((Blk.new w4 90 #[.int .i64 e0, .int .i64 e1, .int .i64 e2, .int .i64 e3]).alloc (.cells #[] 90)).drew
                have oEA := own_drew (own_made (w := w4) (base := w4.heap.size) 90 4 (Nat.le_refl _))
                have oEB := own_drew ((own_made (w := w4) (base := w4.heap.size) 90 4 (Nat.le_refl _)).alloc (.cells #[.int .i64 e0, .int .i64 e1, .int .i64 e2, .int .i64 e3] 90))
                have oEC := own_drew (own_made (w := w4.alloc (.cells #[.int .i64 e0, .int .i64 e1, .int .i64 e2, .int .i64 e3] 90)) (base := w4.heap.size) 90 4 (by simp))
                simp only [World.size_alloc] at VB VC oEA oEB oEC
                have h14 := ecs_one [⟨e0, e1, e2, e3⟩]
                clear rW LIM
                go_region_held3 (fun w' => w'.cell? ⟨w.heap.size, 1, none⟩ = some (.slice (some ⟨b, o, none⟩) m d) ∧ w'.cell? ⟨w.heap.size + 1, 0, none⟩ = some (.int .i64 e0) ∧ w'.cell? ⟨w.heap.size + 1, 1, none⟩ = some (.int .i64 e1) ∧ w'.cell? ⟨w.heap.size + 1, 2, none⟩ = some (.int .i64 e2) ∧ w'.cell? ⟨w.heap.size + 1, 3, none⟩ = some (.int .i64 e3)) (first | (refine HL.out _ ?_; repeat (first | exact hb04 | exact hb06 | exact hb07 | exact hb08 | with_reducible refine Below.drew ?_ | with_reducible refine Below.alloc ?_ (by first | omega | (simp <;> omega)) _ | with_reducible refine Below.setCell ?_ (by dsimp only; omega) _))) (first
                  | (refine ap_step _ app_edge (by decide) w4.heap.size (.tmp 63) (.tmp 67) rfl rfl _ _ _ rfl O7 _ _ _ _ _ rfl rD7 (ecs_one _) q4 hb7.size ?_; intro v8 w8 O8 hg8 hat8; clear hat8; have hb8 := below_grown_own hb7 O7 hg8 (Nat.le_refl _) hb7.size; obtain ⟨B8, d8, rfl, _⟩ := own_form O8; have hb08 := below_then hb04 hb8; have s08 := hb08.size; have s48 := hb8.size; have X8 := X4.below hb8 hz4; have x81 : w8.cell? ⟨w3.heap.size, 1, none⟩ = some (.slice none 0 0) := (by rw [X8.cell]; rfl); have x8f := X8.frozen 1)
                  | (refine ap_stepW _ app_edge (by decide) w4.heap.size (.tmp 60) (.tmp 62) rfl rfl _ k (ecs (g.es.take k)) rfl ?_ _ 1 1 (ecs [⟨e0, e1, e2, e3⟩]) rfl ?_ h14 q3 ?_ ?_; (focus (first | exact O6 | exact O6.alloc _)); (focus (first | exact blk_reads (n := 1) (size := 4) VE rfl | exact reads_newW (e := 90) (size := 4) (m := 1) #[.int .i64 e0, .int .i64 e1, .int .i64 e2, .int .i64 e3] rfl)); (focus (first | exact hb6.size | exact (hb6.alloc hb6.size _).size)); intro v7 w7 O7 hg7 hat7; clear hat7; have hb7 : Below w4.heap.size w4 w7 := (by first | exact below_grown_own hb6 O6 hg7 (Nat.le_refl _) hb6.size | exact below_grown_own (hb6.alloc hb6.size _) (O6.alloc _) hg7 (Nat.le_refl _) (hb6.alloc hb6.size _).size); obtain ⟨B7, d7, rfl, _⟩ := own_form O7; have rD7 := reads_up rD hb7; have hb07 := below_then hb04 hb7; have s07 := hb07.size; have s47 := hb7.size)
                  | (refine fr_step _ app_edge (by decide) w4.heap.size (.tmp 55) (.tmp 59) rfl rfl _ rfl ?_ _ _ _ _ _ rfl (reads_up rE ?_) (ecs_one _) q2 ?_ ?_; (focus (first | exact oEA | exact oEB | exact oEC)); (focus (repeat (first | exact Below.refl _ _ | with_reducible refine Below.drew ?_ | with_reducible refine Below.alloc ?_ (by first | omega | (simp <;> omega)) _))); (focus (first | omega | (simp <;> omega))); intro v6 w6 O6 hb60; have hb6 : Below w4.heap.size w4 w6 := below_then (by repeat (first | exact Below.refl _ _ | with_reducible refine Below.drew ?_ | with_reducible refine Below.alloc ?_ (by first | omega | (simp <;> omega)) _)) hb60; (try (have VE := VB.below hb60 VB.lt)); (try (have VE := VC.below hb60 VC.lt)); obtain ⟨B6, d6, rfl, _⟩ := own_form O6; have hb06 := below_then hb04 hb6; have s06 := hb06.size; have s46 := hb6.size))
                all_goals
                  have hB8 := below_then hB0 hb08
                  have XR8 := XR.below hb08 XR.lt
                  have I8 := (I40.below hb8).far (p := ⟨w3.heap.size, 1, none⟩) (fun q hq hqe => by have := I40.own.top q hq; simp at hqe; omega) (.slice B8 (k + 1 + (m - k)) d8)
                  rw [← ecs_append, ← ecs_append] at O8
                  have V8 := (RIs.of O8 (by omega)).setB (p := ⟨w3.heap.size, 1, none⟩) (by dsimp only; omega) (.slice B8 (k + 1 + (m - k)) d8)
                  have J8 : GIs (w8.setCell ⟨w3.heap.size, 1, none⟩ (.slice B8 (k + 1 + (m - k)) d8)) z2.W.heap.size w8.heap.size A3 n cA B8 (k + 1 + (m - k)) d8 (g.vs.map iv) (ecs (g.es.take k ++ [⟨e0, e1, e2, e3⟩] ++ g.es.drop k)) := ⟨I8.wide (Nat.le_refl _) (by omega), V8.wide (by omega) (Nat.le_refl _)⟩
                  have hB9 := hB8.setCell (p := ⟨w3.heap.size, 1, none⟩) (by dsimp only; omega) (.slice B8 (k + 1 + (m - k)) d8)
                  have R9 := XR8.far (p := ⟨w3.heap.size, 1, none⟩) (by dsimp only; omega) (.slice B8 (k + 1 + (m - k)) d8)
                  have x90 : (w8.setCell ⟨w3.heap.size, 1, none⟩ (.slice B8 (k + 1 + (m - k)) d8)).cell? ⟨w3.heap.size, 0, none⟩ = some (.slice A3 n cA) := by rw [(X8.set_ 1 _).cell]; rfl
                  have x91 : (w8.setCell ⟨w3.heap.size, 1, none⟩ (.slice B8 (k + 1 + (m - k)) d8)).cell? ⟨w3.heap.size, 1, none⟩ = some (.slice B8 (k + 1 + (m - k)) d8) := by rw [(X8.set_ 1 _).cell]; rfl
                  have r90 : (w8.setCell ⟨w3.heap.size, 1, none⟩ (.slice B8 (k + 1 + (m - k)) d8)).cell? ⟨w.heap.size + 1 + 1, 0, none⟩ = some (.slice none 0 0) := by rw [R9.cell]; rfl
                  have r91 : (w8.setCell ⟨w3.heap.size, 1, none⟩ (.slice B8 (k + 1 + (m - k)) d8)).cell? ⟨w.heap.size + 1 + 1, 1, none⟩ = some (.slice none 0 0) := by rw [R9.cell]; rfl
                  have f90 := R9.frozen 0
                  have f91 := R9.frozen 1
                  have hz9 : w8.heap.size = (w8.setCell ⟨w3.heap.size, 1, none⟩ (.slice B8 (k + 1 + (m - k)) d8)).heap.size := by simp
                  clear hg8 hb8 hb08 x81 x8f X8 O8 I8 V8 R9 XR8 hB8 O7 O6 hg7 hb7 hb6 hb60 hb06 hb07 rD7 oEA oEB oEC VB VC rE rD hA1 X4 I40
                  generalize w8.setCell ⟨w3.heap.size, 1, none⟩ (.slice B8 (k + 1 + (m - k)) d8) = w9 at *
                  have HZ := Lib.hid hz9
                  clear hz9
                  go_wp2_with fail
                  refine bodyPost_ret (v := .tuple #[.agg #[.slice A3 n cA, .slice B8 (k + 1 + (m - k)) d8], .bool true]) ?_ rfl ?_
                  · simp [results, Tryz.results112, go_sem]
                    go_simp
                  · rw [HG.out, HKK.out]
                    have hz9 := HZ.out
                    exact ⟨_, _, _, _, _, _, rfl, gis_ret J8 _ _ _ _ (by omega) (by omega) (by omega), below_ret hB9 _ _ _ (by omega)⟩
            · have HKK := Lib.hid (show insK g.es e0 = k by have := insK_le g.es e0; have := HLM.out; omega)
              have hlt' : ¬ (k : Int) < m := by omega
              have hdl : decide ((k : Int) < m) = false := by simp; omega
              clear hks
              go_wp2_with fail
              refine wp_region_k2 (by kernel_rfl) (by kernel_rfl) ?_
              repeat (go_big_quiet_step (fail))
              refine wpQuiet_nil ?_
              intro _ hw'
              obtain ⟨z2, rfl⟩ := hw'
              clear hlt' hdl
              have hx2a : w.heap.size < z2.W.heap.size := by have := z2.be.size; omega
              have q1 : Small (0 + n) := small_of (by omega)
              have bA : Below z2.W.heap.size z2.W (z2.W.alloc (.cells #[] 3)) := (Below.refl _ _).alloc (Nat.le_refl _) _
              have oA := own_made (w := z2.W) (base := z2.W.heap.size) 3 1 (Nat.le_refl _)
              have rA := (h.up (below_then (below_then hB0 z2.be) bA)).ints.rd
              have sA := bA.size
              have kA2 := kA z2
              go_wp2_with (at_builtin; go_loud (refine fr_plain _ app_int (by decide) z2.W.heap.size (.tmp 50) (.tmp 52) rfl rfl _ rfl oA _ _ _ _ _ rfl rA (iv_one _) q1 sA ?_; intro v3 w3 O3 hb30; obtain ⟨A3, cA, rfl, _⟩ := own_form O3; have I30 := RIs.of O3 hn; have hb3 := below_then bA hb30; have hz3 := hb3.size))
              clear hb30 O3 bA oA rA sA kA2
              have hb4 : Below w3.heap.size w3 (w3.alloc (.cells #[.slice A3 n cA, .slice none 0 0] 27)) := (Below.refl _ _).alloc (Nat.le_refl _) _
              have X4 := Blk.new w3 27 #[.slice A3 n cA, .slice none 0 0]
              generalize (w3.alloc (.cells #[.slice A3 n cA, .slice none 0 0] 27)) = w4 at *
              have hbz := z2.be
              have hb04 : Below w0.heap.size w0 w4 := below_then (below_then hbz hb3) hb4
              have hB4 := below_then hB0 hb04
              have s04 := hb04.size
              have hz4 := X4.lt
              have hzz := z2.be.size
              have I40 := I30.below hb4
              have q2 : Small (0 + k) := small_of (by omega)
              have q3 : Small (k + 1) := small_of (by omega)
              have q4 : Small (k + 1 + (m - k)) := small_of (by omega)
              have rW := (h.up hB4).edges.rd
              have rE := reads_take rW (k := k) (by omega)
              rw [ecs_take] at rE
              obtain ⟨A1, hA1, rD⟩ := reads_cutv rW (k := k) (by omega) hcap
              rw [ecs_drop] at rD
              have hkd : k ≤ d := by omega
              have hkm : (k : Int) ≤ (m : Int) := by omega
              have hk0 : (0 : Int) ≤ (k : Int) := by omega
              have LIM := fun w' (hb : Below w0.heap.size w0 w') => And.intro (cell_keep hb cB) (And.intro (cell_keep hb c0) (And.intro (cell_keep hb c1) (And.intro (cell_keep hb c2) (cell_keep hb c3))))
              have HL := Lib.hid LIM
              have VB := (Blk.new (w4.alloc (.cells #[] 90)) 90 #[.int .i64 e0, .int .i64 e1, .int .i64 e2, .int .i64 e3]).drew
              have VC := ((Blk.new w4 90 #[.int .i64 e0, .int .i64 e1, .int .i64 e2, .int .i64 e3]).alloc (.cells #[] 90)).drew
              have oEA := own_drew (own_made (w := w4) (base := w4.heap.size) 90 4 (Nat.le_refl _))
              have oEB := own_drew ((own_made (w := w4) (base := w4.heap.size) 90 4 (Nat.le_refl _)).alloc (.cells #[.int .i64 e0, .int .i64 e1, .int .i64 e2, .int .i64 e3] 90))
              have oEC := own_drew (own_made (w := w4.alloc (.cells #[.int .i64 e0, .int .i64 e1, .int .i64 e2, .int .i64 e3] 90)) (base := w4.heap.size) 90 4 (by simp))
              simp only [World.size_alloc] at VB VC oEA oEB oEC
              have h14 := ecs_one [⟨e0, e1, e2, e3⟩]
              clear rW LIM
              go_region_held3 (fun w' => w'.cell? ⟨w.heap.size, 1, none⟩ = some (.slice B m d) ∧ w'.cell? ⟨w.heap.size + 1, 0, none⟩ = some (.int .i64 e0) ∧ w'.cell? ⟨w.heap.size + 1, 1, none⟩ = some (.int .i64 e1) ∧ w'.cell? ⟨w.heap.size + 1, 2, none⟩ = some (.int .i64 e2) ∧ w'.cell? ⟨w.heap.size + 1, 3, none⟩ = some (.int .i64 e3)) (first | (refine HL.out _ ?_; repeat (first | exact hb04 | exact hb06 | exact hb07 | exact hb08 | with_reducible refine Below.drew ?_ | with_reducible refine Below.alloc ?_ (by first | omega | (simp <;> omega)) _ | with_reducible refine Below.setCell ?_ (by dsimp only; omega) _))) (first
                | (refine ap_step _ app_edge (by decide) w4.heap.size (.tmp 63) (.tmp 67) rfl rfl _ _ _ rfl O7 _ _ _ _ _ rfl rD7 (ecs_one _) q4 hb7.size ?_; intro v8 w8 O8 hg8 hat8; clear hat8; have hb8 := below_grown_own hb7 O7 hg8 (Nat.le_refl _) hb7.size; obtain ⟨B8, d8, rfl, _⟩ := own_form O8; have hb08 := below_then hb04 hb8; have s08 := hb08.size; have s48 := hb8.size; have X8 := X4.below hb8 hz4; have x81 : w8.cell? ⟨w3.heap.size, 1, none⟩ = some (.slice none 0 0) := (by rw [X8.cell]; rfl); have x8f := X8.frozen 1)
                | (refine ap_stepW _ app_edge (by decide) w4.heap.size (.tmp 60) (.tmp 62) rfl rfl _ k (ecs (g.es.take k)) rfl ?_ _ 1 1 (ecs [⟨e0, e1, e2, e3⟩]) rfl ?_ h14 q3 ?_ ?_; (focus (first | exact O6 | exact O6.alloc _)); (focus (first | exact blk_reads (n := 1) (size := 4) VE rfl | exact reads_newW (e := 90) (size := 4) (m := 1) #[.int .i64 e0, .int .i64 e1, .int .i64 e2, .int .i64 e3] rfl)); (focus (first | exact hb6.size | exact (hb6.alloc hb6.size _).size)); intro v7 w7 O7 hg7 hat7; clear hat7; have hb7 : Below w4.heap.size w4 w7 := (by first | exact below_grown_own hb6 O6 hg7 (Nat.le_refl _) hb6.size | exact below_grown_own (hb6.alloc hb6.size _) (O6.alloc _) hg7 (Nat.le_refl _) (hb6.alloc hb6.size _).size); obtain ⟨B7, d7, rfl, _⟩ := own_form O7; have rD7 := reads_up rD hb7; have hb07 := below_then hb04 hb7; have s07 := hb07.size; have s47 := hb7.size)
                | (refine fr_step _ app_edge (by decide) w4.heap.size (.tmp 55) (.tmp 59) rfl rfl _ rfl ?_ _ _ _ _ _ rfl (reads_up rE ?_) (ecs_one _) q2 ?_ ?_; (focus (first | exact oEA | exact oEB | exact oEC)); (focus (repeat (first | exact Below.refl _ _ | with_reducible refine Below.drew ?_ | with_reducible refine Below.alloc ?_ (by first | omega | (simp <;> omega)) _))); (focus (first | omega | (simp <;> omega))); intro v6 w6 O6 hb60; have hb6 : Below w4.heap.size w4 w6 := below_then (by repeat (first | exact Below.refl _ _ | with_reducible refine Below.drew ?_ | with_reducible refine Below.alloc ?_ (by first | omega | (simp <;> omega)) _)) hb60; (try (have VE := VB.below hb60 VB.lt)); (try (have VE := VC.below hb60 VC.lt)); obtain ⟨B6, d6, rfl, _⟩ := own_form O6; have hb06 := below_then hb04 hb6; have s06 := hb06.size; have s46 := hb6.size))
              all_goals
                have hB8 := below_then hB0 hb08
                have XR8 := XR.below hb08 XR.lt
                have I8 := (I40.below hb8).far (p := ⟨w3.heap.size, 1, none⟩) (fun q hq hqe => by have := I40.own.top q hq; simp at hqe; omega) (.slice B8 (k + 1 + (m - k)) d8)
                rw [← ecs_append, ← ecs_append] at O8
                have V8 := (RIs.of O8 (by omega)).setB (p := ⟨w3.heap.size, 1, none⟩) (by dsimp only; omega) (.slice B8 (k + 1 + (m - k)) d8)
                have J8 : GIs (w8.setCell ⟨w3.heap.size, 1, none⟩ (.slice B8 (k + 1 + (m - k)) d8)) z2.W.heap.size w8.heap.size A3 n cA B8 (k + 1 + (m - k)) d8 (g.vs.map iv) (ecs (g.es.take k ++ [⟨e0, e1, e2, e3⟩] ++ g.es.drop k)) := ⟨I8.wide (Nat.le_refl _) (by omega), V8.wide (by omega) (Nat.le_refl _)⟩
                have hB9 := hB8.setCell (p := ⟨w3.heap.size, 1, none⟩) (by dsimp only; omega) (.slice B8 (k + 1 + (m - k)) d8)
                have R9 := XR8.far (p := ⟨w3.heap.size, 1, none⟩) (by dsimp only; omega) (.slice B8 (k + 1 + (m - k)) d8)
                have x90 : (w8.setCell ⟨w3.heap.size, 1, none⟩ (.slice B8 (k + 1 + (m - k)) d8)).cell? ⟨w3.heap.size, 0, none⟩ = some (.slice A3 n cA) := by rw [(X8.set_ 1 _).cell]; rfl
                have x91 : (w8.setCell ⟨w3.heap.size, 1, none⟩ (.slice B8 (k + 1 + (m - k)) d8)).cell? ⟨w3.heap.size, 1, none⟩ = some (.slice B8 (k + 1 + (m - k)) d8) := by rw [(X8.set_ 1 _).cell]; rfl
                have r90 : (w8.setCell ⟨w3.heap.size, 1, none⟩ (.slice B8 (k + 1 + (m - k)) d8)).cell? ⟨w.heap.size + 1 + 1, 0, none⟩ = some (.slice none 0 0) := by rw [R9.cell]; rfl
                have r91 : (w8.setCell ⟨w3.heap.size, 1, none⟩ (.slice B8 (k + 1 + (m - k)) d8)).cell? ⟨w.heap.size + 1 + 1, 1, none⟩ = some (.slice none 0 0) := by rw [R9.cell]; rfl
                have f90 := R9.frozen 0
                have f91 := R9.frozen 1
                have hz9 : w8.heap.size = (w8.setCell ⟨w3.heap.size, 1, none⟩ (.slice B8 (k + 1 + (m - k)) d8)).heap.size := by simp
                clear hg8 hb8 hb08 x81 x8f X8 O8 I8 V8 R9 XR8 hB8 O7 O6 hg7 hb7 hb6 hb60 hb06 hb07 rD7 oEA oEB oEC VB VC rE rD hA1 X4 I40
                generalize w8.setCell ⟨w3.heap.size, 1, none⟩ (.slice B8 (k + 1 + (m - k)) d8) = w9 at *
                have HZ := Lib.hid hz9
                clear hz9
                go_wp2_with fail
                refine bodyPost_ret (v := .tuple #[.agg #[.slice A3 n cA, .slice B8 (k + 1 + (m - k)) d8], .bool true]) ?_ rfl ?_
                · simp [results, Tryz.results112, go_sem]
                  go_simp
                · rw [HG.out, HKK.out]
                  have hz9 := HZ.out
                  exact ⟨_, _, _, _, _, _, rfl, gis_ret J8 _ _ _ _ (by omega) (by omega) (by omega), below_ret hB9 _ _ _ (by omega)⟩
end Go.Proofs.YtomkgnamjfiocaaGreatDoor
