/- slices.Insert of one element over edges: a row of the call's own. -/
import Derived.Test.YtljggmgijadjaaaGreatDoorDel
import Derived.Shelf.Spec.SlicesInsertGrow
namespace Go.Proofs.YtljggmgijadjaaaGreatDoor
open Go.RowKit Go.ChangeShapes Go.WideShapes Go.ChangeAt Go.Deep
set_option linter.unusedVariables false
/-- copy over elements of more than one cell: all is read before anything is written. -/
theorem run_copy_wide {P : Program} (w : World) (dT sT ty elem : TypeId) (b o dLen dCap : Nat) (a : Addr) (sLen sCap m size : Nat) (cs : List Value)
    (hu : P.underlying dT = some (.slice elem)) (hs : (P.info? elem).map (·.size) = some size) (hm : Nat.min sLen dLen = m) (hn : cs.length = m * size)
    (hsrc : ∀ j v, cs[j]? = some v → w.cell? (a.add j) = some v) (hc : ∀ j, j < cs.length → (w.cell? ⟨b, o + j, none⟩).isSome = true) (hf : ∀ j, j < cs.length → w.frozen? ⟨b, o + j, none⟩ = false) (h1 : ∀ v ∈ cs, v.oneCell' = true) :
    (Builtin.copy_ #[dT, sT] ty #[.slice (some ⟨b, o, none⟩) dLen dCap, .slice (some a) sLen sCap]).run P w = .ok (goInt m) (w.setCells b o cs) := by
  have hl := run_loadCells_list (P := P) w a cs hsrc
  have hst := run_storeCells_cells (P := P) b o cs 0 w (by simpa using hc) (by simpa using hf) h1
  cases hq : P.info? elem with
  | none => simp [hq] at hs
  | some i =>
    have hi : i.size = size := by simpa [hq] using hs
    rw [hn] at hl
    simp [Builtin.copy_, run_underlying hu, Builtin.lenOf, Builtin.firstCells, sizeOf, typeInfo, hq, hi, hm, hl, hst]
theorem blk_reads {w : World} {g : Nat} {t : TypeId} {vs : List Value} {n size : Nat} (h : Blk w g t vs.toArray) (hl : vs.length = n * size) : Reads w w.heap.size size (some ⟨g, 0, none⟩) n vs :=
  ⟨hl, fun _ => ⟨_, rfl, h.lt, fun j u hu => by rw [add_plain, Nat.zero_add, h.cell]; simpa using hu⟩⟩
theorem Tch.one {w w' : World} {g : Nat} (t : Tch g (g + 1) w w') : w.grownBy w' (some g) := ⟨t.os, t.tape, t.output, t.size, fun k hk hne => t.block k hk (by
  have : k ≠ g := fun e => hne (by rw [e])
  omega)⟩
/-- What stood from element k on moved one to the right, an element laid there. -/
theorem own_ins {w : World} {base g n cap size k : Nat} {e : TypeId} {xs vs : List Value} (h : w.ownsRow base e size (.slice (some ⟨g, 0, none⟩) n cap) n xs) (hk : k ≤ n) (hc : n + 1 ≤ cap) (hv : vs.length = size) :
    ((w.setCells g ((k + 1) * size) (xs.drop (k * size))).setCells g (k * size) vs).ownsRow base e size (.slice (some ⟨g, 0, none⟩) (n + 1) cap) (n + 1) (xs.take (k * size) ++ vs ++ xs.drop (k * size)) := by
  obtain ⟨hl, hr⟩ := h
  rcases hr with ⟨hv, _⟩ | ⟨g', cap', cur, hvv, hb, hg, h1, h2, h3, h4⟩
  · injection hv with h1 _
    cases h1
  · injection hvv with e1 e2 e3
    injection e1 with e1
    injection e1 with e1
    subst e1
    subst e3
    have m1 : k * size ≤ n * size := Nat.mul_le_mul_right _ hk
    have m2 : (n + 1) * size ≤ cap * size := Nat.mul_le_mul_right _ hc
    rw [Nat.succ_mul] at m2
    rw [Nat.succ_mul]
    have hcl : cur.toList.length = cap * size := by simpa using h3
    have hd : (xs.drop (k * size)).length = n * size - k * size := by rw [List.length_drop, hl]
    have g1 := setCells_heap (i := k * size + size) (vs := xs.drop (k * size)) hg (by rw [hd]; omega)
    have g2 := setCells_heap (i := k * size) (vs := vs) g1 (by simp; omega)
    refine ⟨by simp [Nat.succ_mul]; omega, .inr ⟨g, cap, _, rfl, hb, g2, by omega, h2, by simp; omega, ?_⟩⟩
    have e0 : xs.take (k * size) = cur.toList.take (k * size) := by rw [← h4, List.take_take]; congr 1; omega
    rw [e0]
    simp only
    have ht : (cur.toList.take (k * size + size) ++ xs.drop (k * size) ++ cur.toList.drop (k * size + size + (xs.drop (k * size)).length)).take (k * size) = cur.toList.take (k * size) := by
      rw [List.append_assoc, List.take_append_of_le_length (by simp; omega), List.take_take]
      congr 1; omega
    have hdr : (cur.toList.take (k * size + size) ++ xs.drop (k * size) ++ cur.toList.drop (k * size + size + (xs.drop (k * size)).length)).drop (k * size + vs.length) = xs.drop (k * size) ++ cur.toList.drop (k * size + size + (xs.drop (k * size)).length) := by
      have hlen : (cur.toList.take (k * size + size)).length = k * size + vs.length := by simp; omega
      rw [List.append_assoc, ← hlen, List.drop_left]
    rw [ht, hdr, ← List.append_assoc]
    have hlen : (cur.toList.take (k * size) ++ vs ++ xs.drop (k * size)).length = (n + 1) * size := by simp [Nat.succ_mul]; omega
    rw [← hlen, List.take_left]
section
variable (w : World) {A : Option Addr} {n c k lo vb : Nat} {xs vs : List Value}
set_option maxRecDepth 4000 in
set_option maxHeartbeats 2000000 in
theorem insE_end (h : w.ownsRow lo 29 4 (.slice A n c) n xs) (hn : n ≤ 1000000) (hlo : lo ≤ w.heap.size) (hV : Blk w vb 29 vs.toArray) (hvl : vs.length = 4) (h1v : ∀ u ∈ vs, u.oneCell' = true) :
    Calls Tryz.prog 60 #[.slice A n c, .int .i64 (n : Nat), .slice (some ⟨vb, 0, none⟩) 1 1] w fun e w' =>
      ∃ v', e = .returned v' ∧ w'.ownsRow lo 29 4 v' (n + 1) (xs ++ vs) ∧ w.grownBy w' (Value.slice A n c).ownBlock ∧ (v'.ownBlock = (Value.slice A n c).ownBlock ∨ v'.ownBlock = some w.heap.size) := by
  have hr := blk_reads (n := 1) (size := 4) hV hvl
  have q1 : Small (n + 1) := small_of (by omega)
  have hnc : n ≤ c := by
    obtain ⟨_, _, he, hnc, _, _⟩ := own_form h
    injection he with _ _ e3
    omega
  have HV := Lib.hid hV
  clear hV
  rcases A with _ | ⟨g, o, sp⟩
  · go_enter Tryz.func60, Tryz.ntmps60
    go_wp2_with (at_builtin; go_loud (refine ap_plain _ app_edge (by decide) lo (.tmp 23) (.tmp 24) rfl rfl _ _ _ rfl h _ _ _ _ _ rfl hr h1v q1 hlo ?_; intro v' w1 ho1 hg1 hat1))
    all_goals
      go_ret
      exact ⟨_, rfl, ho1, hg1, hat1⟩
  · go_enter Tryz.func60, Tryz.ntmps60
    go_wp2_with (at_builtin; go_loud (refine ap_plain _ app_edge (by decide) lo (.tmp 23) (.tmp 24) rfl rfl _ _ _ rfl h _ _ _ _ _ rfl hr h1v q1 hlo ?_; intro v' w1 ho1 hg1 hat1))
    all_goals
      go_ret
      exact ⟨_, rfl, ho1, hg1, hat1⟩
set_option maxRecDepth 4000 in
set_option maxHeartbeats 2000000 in
theorem insE_shift {g : Nat} (h : w.ownsRow lo 29 4 (.slice (some ⟨g, 0, none⟩) n c) n xs) (hk : k < n) (hnc : n + 1 ≤ c) (hn : n ≤ 1000000) (hV : Blk w vb 29 vs.toArray) (hvb : vb ≠ g) (hvl : vs.length = 4) (h1v : ∀ u ∈ vs, u.oneCell' = true) (h1c : ∀ u ∈ xs, u.oneCell' = true) :
    Calls Tryz.prog 60 #[.slice (some ⟨g, 0, none⟩) n c, .int .i64 (k : Nat), .slice (some ⟨vb, 0, none⟩) 1 1] w fun e w' =>
      e = .returned (.slice (some ⟨g, 0, none⟩) (n + 1) c) ∧ w'.ownsRow lo 29 4 (.slice (some ⟨g, 0, none⟩) (n + 1) c) (n + 1) (xs.take (k * 4) ++ vs ++ xs.drop (k * 4)) ∧ w.grownBy w' (some g) := by
  have hl := h.1
  obtain ⟨cur, hg, hcm, hcs, htake, hlo⟩ : ∃ cur : Array Value, w.heap[g]? = some (.cells cur 29 (0, 0)) ∧ c ≤ maxLen ∧ cur.size = c * 4 ∧ cur.toList.take (n * 4) = xs ∧ lo ≤ g := by
    rcases h.2 with ⟨hv, _⟩ | ⟨g', cap', cur, hv, hb, hg, h1, h2, h3, h4⟩
    · injection hv with h1 _
      cases h1
    · injection hv with e1 e2 e3
      injection e1 with e1
      injection e1 with e1
      subst e1
      subst e3
      exact ⟨cur, hg, h2, h3, h4, hb⟩
  have hc63 : c ≤ 9223372036854775807 := by unfold maxLen at hcm; omega
  have hcl : cur.toList.length = c * 4 := by simpa using hcs
  have hsz : (Tryz.prog.info? 29).map (·.size) = some 4 := by
    have := app_edge.inf
    obtain ⟨i0, h1, h2⟩ := Option.map_eq_some_iff.1 this
    rw [h1]
    injection h2 with _ h2
    injection h2 with h2
    simp [h2]
  have hz4 : ∀ w, (Go.sizeOf 29).run Tryz.prog w = .ok 4 w := fun w => by
    obtain ⟨i0, h1, h2⟩ := Option.map_eq_some_iff.1 hsz
    simp [Go.sizeOf, typeInfo, h1, h2]
  have hz1 : ¬ ((k : Int) = (n : Int)) := by omega
  have hz3 : ¬ ((c : Int) < (n : Int) + 1) := by omega
  have hkn : (k : Int) ≤ (n : Int) := by omega
  have hkc : ¬ (c = k) := by omega
  have hkc1 : ¬ (c = k + 1) := by omega
  have hk0 : (0 : Int) ≤ (k : Int) + 1 := by omega
  have hkn1 : (k : Int) ≤ (n : Int) + 1 := by omega
  have hw1 : IntKind.i64.wrap ((k : Int) + 1) = (k : Int) + 1 := by rw [IntKind.wrap_i64]; omega
  have hw2 : IntKind.i64.wrap ((n : Int) + 1) = (n : Int) + 1 := by rw [IntKind.wrap_i64]; omega
  have hov : ∀ lb cb, (callFunc 110 #[.slice (some ⟨vb, 0, none⟩) 1 1, .slice (some ⟨g, (k + 1) * 4, none⟩) lb cb]).run Tryz.prog w = .ok (.value (.bool false)) w := fun lb cb => by
    have hg0 : g < w.heap.size := (Array.getElem?_eq_some_iff.1 hg).1
    have hsa : w.shape? vb = some (29, 4) := by
      unfold Blk at hV
      simp [World.shape?, hV, hvl]
    have hsb : w.shape? g = some (29, c * 4) := by simp [World.shape?, hg, hcs]
    rw [run_callFunc_extern Tryz.func110 (by kernel_rfl) (by kernel_rfl) (by kernel_rfl) (e := Extern.SlicesOverlaps.overlaps #[25, 25] #[4]) (by kernel_rfl),
      Lib.run_overlaps_apart w 25 4 29 Tryz.underlying25 4 hz4 ⟨vb, 0, none⟩ ⟨g, (k + 1) * 4, none⟩ 1 1 lb cb hvb _ _ _ _ hsa hsb (by omega) (hV.frozen 0) (hV.frozen 4)]
    rfl
  have hdl : (xs.drop (k * 4)).length = (n - k) * 4 := by rw [List.length_drop, hl, Nat.sub_mul]
  have hcell : ∀ j u, xs[j]? = some u → w.drew.cell? ⟨g, j, none⟩ = some u := fun j u hu => by
    have hj := (List.getElem?_eq_some_iff.1 hu).1
    have := (own_drew h).cellAt j (by omega)
    rw [this, hu]
  have hsp : ∀ j, j < c * 4 → (w.drew.cell? ⟨g, j, none⟩).isSome = true := fun j hj => by
    rw [cell_of_row w.drew g j cur _ _ hg]
    simp [hcs, hj]
  have hfz : ∀ j, w.drew.frozen? ⟨g, j, none⟩ = false := fun j => (own_drew h).frozenAt j
  have hcp1 : ∀ ty dc sc, (Builtin.copy_ #[25, 25] ty #[.slice (some ⟨g, (k + 1) * 4, none⟩) (n - k) dc, .slice (some ⟨g, k * 4, none⟩) (n + 1 - k) sc]).run Tryz.prog w.drew = .ok (goInt ((n - k : Nat) : Int)) (w.drew.setCells g ((k + 1) * 4) (xs.drop (k * 4))) := fun ty dc sc =>
    run_copy_wide w.drew _ _ ty 29 g ((k + 1) * 4) (n - k) dc ⟨g, k * 4, none⟩ (n + 1 - k) sc (n - k) 4 (xs.drop (k * 4)) Tryz.underlying25 hsz (by simp only [Nat.min_def]; split <;> omega) hdl
      (fun j v hj => by rw [add_plain]; exact hcell _ v (by rwa [List.getElem?_drop] at hj))
      (fun j hj => hsp _ (by rw [hdl] at hj; omega)) (fun j _ => hfz _) (fun v hv => h1c v (List.mem_of_mem_drop hv))
  have HO := own_ins (own_drew h) (k := k) (by omega) hnc hvl
  have HT : Tch g (g + 1) w ((w.drew.setCells g ((k + 1) * 4) (xs.drop (k * 4))).setCells g (k * 4) vs) :=
    ((Tch.refl g (g + 1) w).drew.trans (setCells_tch g g (g + 1) (Nat.le_refl _) (Nat.lt_succ_self _) _ _ _)).trans (setCells_tch g g (g + 1) (Nat.le_refl _) (Nat.lt_succ_self _) _ _ _)
  generalize xs.drop (k * 4) = news at *
  have hWc : ∀ j, j < c * 4 → ((w.drew.setCells g ((k + 1) * 4) news).cell? ⟨g, j, none⟩).isSome = true := fun j hj => isSome_setCells _ _ _ _ (fun t ht => hsp _ (by omega)) _ (hsp j hj)
  have hWv : ∀ j v, vs[j]? = some v → (w.drew.setCells g ((k + 1) * 4) news).cell? ⟨vb, j, none⟩ = some v := fun j v hj => by
    rw [World.cell?_setCells_out g news _ _ _ (fun h _ => absurd h hvb)]
    have := hV.drew.cell j
    rw [this]
    simpa using hj
  have hWf : ∀ j, (w.drew.setCells g ((k + 1) * 4) news).frozen? ⟨g, j, none⟩ = false := fun j => by rw [World.frozen?_setCells]; exact hfz j
  obtain ⟨W1, hW1⟩ : ∃ W1, W1 = w.drew.setCells g ((k + 1) * 4) news := ⟨_, rfl⟩
  rw [← hW1] at hcp1 HO HT hWc hWv hWf
  have hcp2 : ∀ ty dc, (Builtin.copy_ #[25, 25] ty #[.slice (some ⟨g, k * 4, none⟩) (n + 1 - k) dc, .slice (some ⟨vb, 0, none⟩) 1 1]).run Tryz.prog W1 = .ok (goInt ((1 : Nat) : Int)) (W1.setCells g (k * 4) vs) := fun ty dc =>
    run_copy_wide W1 _ _ ty 29 g (k * 4) (n + 1 - k) dc ⟨vb, 0, none⟩ 1 1 1 4 vs Tryz.underlying25 hsz (by simp only [Nat.min_def]; split <;> omega) (by omega)
      (fun j v hj => by rw [add_plain, Nat.zero_add]; exact hWv _ v hj)
      (fun j hj => hWc _ (by omega)) (fun j _ => hWf _) h1v
  have HX := Lib.hid HO
  have HY := Lib.hid HT
  clear HO HT hWc hWv hWf hsp hcell hfz hdl
  go_enter Tryz.func60, Tryz.ntmps60
  go_wp2_with (simp only [hov])
  go_region_law (refine step_copy_runI rfl _ _ 25 25 rfl _ _ (by simp [Act.eval, Act.put]) (by simp [Act.eval, Act.put]) (hcp1 _ _ _) ?_)
  rw [← hW1]
  have HW := Lib.hid hW1
  clear hW1
  go_wp2_with (at_builtin; refine wpList_copy_runI _ rfl _ _ 25 25 rfl _ _ rfl rfl (hcp2 _ _) ?_)
  go_ret
  exact ⟨rfl, HX.out, HY.out.one⟩
set_option maxRecDepth 4000 in
set_option maxHeartbeats 2000000 in
theorem insE_grow {g : Nat} (h : w.ownsRow lo 29 4 (.slice (some ⟨g, 0, none⟩) n c) n xs) (hk : k < n) (hnc1 : n ≤ c) (hnc : ¬ n + 1 ≤ c) (hn : n ≤ 1000000) (hlo : lo ≤ w.heap.size) (hV : Blk w vb 29 vs.toArray) (hvl : vs.length = 4) (h1v : ∀ u ∈ vs, u.oneCell' = true) (h1c : ∀ u ∈ xs, u.oneCell' = true) :
    Calls Tryz.prog 60 #[.slice (some ⟨g, 0, none⟩) n c, .int .i64 (k : Nat), .slice (some ⟨vb, 0, none⟩) 1 1] w fun e w' =>
      ∃ G, e = .returned (.slice (some ⟨w.heap.size, 0, none⟩) (n + 1) G) ∧ w'.ownsRow lo 29 4 (.slice (some ⟨w.heap.size, 0, none⟩) (n + 1) G) (n + 1) (xs.take (k * 4) ++ vs ++ xs.drop (k * 4)) ∧ w.grownBy w' (some g) := by
  have hl := h.1
  obtain rfl : c = n := by omega
  have hgw : g < w.heap.size := (h.lt g rfl).2
  obtain ⟨i0, hi0, hz0, hzs, hzb⟩ := info_parts app_edge.inf
  have hsz : (Tryz.prog.info? 29).map (·.size) = some 4 := by rw [hi0]; simp [hzs]
  have hcell : ∀ j u, xs[j]? = some u → w.cell? ⟨g, j, none⟩ = some u := fun j u hu => by
    have hj := (List.getElem?_eq_some_iff.1 hu).1
    rw [h.cellAt j (by omega), hu]
  have hkk : (c : Int) + 1 - (k : Int) = ((c + 1 - k : Nat) : Int) := by omega
  have hik : k + (c + 1 - k) = c + 1 := by omega
  have hold : (Builtin.firstCells i0.size k (.slice (some ⟨g, 0, none⟩) k c)).run Tryz.prog w.drew = .ok (xs.take (k * 4)).toArray w.drew := by
    rw [hzs]
    exact run_firstCells_some w.drew 4 k ⟨g, 0, none⟩ k c (xs.take (k * 4)) (by rw [List.length_take]; omega) (fun j v hj => by
      rw [add_plain, Nat.zero_add]
      rw [List.getElem?_take] at hj
      split at hj
      · exact hcell j v hj
      · cases hj)
  obtain ⟨Z, hZ, hZs⟩ : ∃ Z : Array Value, Z = (Value.agg #[.int .i64 0, .int .i64 0, .int .i64 0, .int .i64 0]).cells ∧ Z.size = 4 := ⟨_, rfl, rfl⟩
  have hrz : ∀ ty, (Builtin.append_ #[25, 3] ty #[.slice (some ⟨g, 0, none⟩) k c, .int .i64 ((c : Int) + 1 - (k : Int))]).run Tryz.prog w =
      .ok (.slice (some ⟨w.heap.size, 0, none⟩) (c + 1) (grownCap w (c + 1) c 29)) (w.drew.alloc (.cells ((xs.take (k * 4)).toArray ++ Builtin.zeroCells Z (c + 1 - k) ++ Builtin.zeroCells Z (grownCap w (c + 1) c 29 - (c + 1))) 29)) := fun ty => by
    have h := Lib.run_append_grow_zeros w 25 3 ty 29 i0 _ .i64 .i64 Tryz.underlying25 Tryz.underlying3 hi0 hz0 (some ⟨g, 0, none⟩) k c (xs.take (k * 4)) hold (c + 1 - k) (by omega) (by omega) (by omega) (by omega) (by rw [hzb]; omega) (by rw [hzb, hik]; exact growslice_fits (by omega) (by omega))
    rw [hik, ← hZ] at h
    rw [hkk]
    exact h
  have hGn : c + 1 ≤ grownCap w (c + 1) c 29 := grownCap_ge w _ _ _
  have hG63 : grownCap w (c + 1) c 29 ≤ 9223372036854775807 := by
    have := grownCap_le_maxLen w (c + 1) c 29 (by unfold maxLen; omega)
    unfold maxLen at this
    omega
  generalize grownCap w (c + 1) c 29 = G at *
  obtain ⟨ROW, hROW⟩ : ∃ ROW : Array Value, ROW = (xs.take (k * 4)).toArray ++ Builtin.zeroCells Z (c + 1 - k) ++ Builtin.zeroCells Z (G - (c + 1)) := ⟨_, rfl⟩
  rw [← hROW] at hrz
  have hRs : ROW.size = G * 4 := by
    rw [hROW]
    simp [Builtin.zeroCells, hZs, hl]
    omega
  have hRt : ROW.toList.take (k * 4) = xs.take (k * 4) := by
    have hx : (xs.take (k * 4)).length = k * 4 := by rw [List.length_take]; omega
    rw [hROW, Array.toList_append, Array.toList_append, List.append_assoc, List.take_append_of_le_length (by simp; omega)]
    exact List.take_of_length_le (Nat.le_of_eq hx)
  have h1d : ∀ u ∈ xs.drop (k * 4), u.oneCell' = true := fun u hu => h1c u (List.mem_of_mem_drop hu)
  have hdl : (xs.drop (k * 4)).length = (c - k) * 4 := by rw [List.length_drop, hl, Nat.sub_mul]
  have hW1h : (w.alloc (.cells ROW 29)).drew.heap[w.heap.size]? = some (.cells ROW 29 (0, 0)) := heap_alloc_new w _
  have g2 := setCells_heap (i := k * 4) (vs := vs) hW1h (by omega)
  have g3 := setCells_heap (w := ((w.alloc (.cells ROW 29)).drew.setCells w.heap.size (k * 4) vs).drew) (i := (k + 1) * 4) (vs := xs.drop (k * 4)) g2 (by simp; omega)
  have HO : ((((w.alloc (.cells ROW 29)).drew.setCells w.heap.size (k * 4) vs).drew).setCells w.heap.size ((k + 1) * 4) (xs.drop (k * 4))).ownsRow lo 29 4 (.slice (some ⟨w.heap.size, 0, none⟩) (c + 1) G) (c + 1) (xs.take (k * 4) ++ vs ++ xs.drop (k * 4)) := by
    refine ⟨by simp; omega, .inr ⟨w.heap.size, G, _, rfl, hlo, g3, hGn, by unfold maxLen; omega, by simp; omega, ?_⟩⟩
    simp only
    have hlen1 : (ROW.toList.take (k * 4) ++ vs).length = (k + 1) * 4 := by simp; omega
    rw [← hlen1, List.take_left, hlen1, hRt]
    have hlen : (xs.take (k * 4) ++ vs ++ xs.drop (k * 4)).length = (c + 1) * 4 := by simp; omega
    rw [← hlen, List.take_left]
  have HT : Tch w.heap.size (w.heap.size + 1) w ((((w.alloc (.cells ROW 29)).drew.setCells w.heap.size (k * 4) vs).drew).setCells w.heap.size ((k + 1) * 4) (xs.drop (k * 4))) :=
    (((Tch.refl w.heap.size (w.heap.size + 1) w).alloc _).drew.trans (setCells_tch _ _ _ (Nat.le_refl _) (Nat.lt_succ_self _) _ _ _)).drew.trans (setCells_tch _ _ _ (Nat.le_refl _) (Nat.lt_succ_self _) _ _ _)
  have HG : w.grownBy ((((w.alloc (.cells ROW 29)).drew.setCells w.heap.size (k * 4) vs).drew).setCells w.heap.size ((k + 1) * 4) (xs.drop (k * 4))) (some g) :=
    ⟨HT.os, HT.tape, HT.output, HT.size, fun j hj _ => HT.block j hj (.inl hj)⟩
  obtain ⟨W1, hW1⟩ : ∃ W1, W1 = w.drew.alloc (.cells ROW 29) := ⟨_, rfl⟩
  have hvw : vb < w.heap.size := hV.lt
  have hN : ∀ j, j < G * 4 → (W1.cell? ⟨w.heap.size, j, none⟩).isSome = true := fun j hj => by
    rw [hW1, World.cell?_alloc_at (w := w.drew) ROW _ w.heap.size j rfl, Array.getElem?_eq_getElem (by omega)]; rfl
  have hNf : ∀ j, W1.frozen? ⟨w.heap.size, j, none⟩ = false := fun j => by rw [hW1]; exact World.frozen?_alloc_at (w := w.drew) ROW _ w.heap.size j rfl
  have hOb : ∀ j v, w.cell? ⟨g, j, none⟩ = some v → W1.cell? ⟨g, j, none⟩ = some v := fun j v h => by rw [hW1, World.cell?_alloc_past (w := w.drew) _ g j hgw]; exact h
  have hOv : ∀ j v, vs[j]? = some v → W1.cell? ⟨vb, j, none⟩ = some v := fun j v h => by
    rw [hW1, World.cell?_alloc_past (w := w.drew) _ vb j hvw]
    have := hV.cell j
    have h2 : w.drew.cell? ⟨vb, j, none⟩ = w.cell? ⟨vb, j, none⟩ := rfl
    rw [h2, this]
    simpa using h
  have hcpA : ∀ (W : World), (∀ x, W.cell? x = W1.cell? x) → (∀ x, W.frozen? x = W1.frozen? x) → ∀ ty dc, (Builtin.copy_ #[25, 25] ty #[.slice (some ⟨w.heap.size, k * 4, none⟩) (c + 1 - k) dc, .slice (some ⟨vb, 0, none⟩) 1 1]).run Tryz.prog W = .ok (goInt ((1 : Nat) : Int)) (W.setCells w.heap.size (k * 4) vs) := fun W hWc hWf ty dc =>
    run_copy_wide W _ _ ty 29 w.heap.size (k * 4) (c + 1 - k) dc ⟨vb, 0, none⟩ 1 1 1 4 vs Tryz.underlying25 hsz (by simp only [Nat.min_def]; split <;> omega) (by omega)
      (fun j v hj => by rw [add_plain, Nat.zero_add, hWc]; exact hOv _ v hj)
      (fun j hj => by rw [hWc]; exact hN _ (by omega)) (fun j _ => by rw [hWf]; exact hNf _) h1v
  have hgN : g ≠ w.heap.size := by omega
  have hcpB : ∀ (W : World), (∀ x, W.cell? x = (W1.setCells w.heap.size (k * 4) vs).cell? x) → (∀ x, W.frozen? x = (W1.setCells w.heap.size (k * 4) vs).frozen? x) → ∀ ty dc sc, (Builtin.copy_ #[25, 25] ty #[.slice (some ⟨w.heap.size, (k + 1) * 4, none⟩) (c - k) dc, .slice (some ⟨g, k * 4, none⟩) (c - k) sc]).run Tryz.prog W = .ok (goInt ((c - k : Nat) : Int)) (W.setCells w.heap.size ((k + 1) * 4) (xs.drop (k * 4))) := fun W hWc hWf ty dc sc =>
    run_copy_wide W _ _ ty 29 w.heap.size ((k + 1) * 4) (c - k) dc ⟨g, k * 4, none⟩ (c - k) sc (c - k) 4 (xs.drop (k * 4)) Tryz.underlying25 hsz (by simp only [Nat.min_def]; split <;> omega) hdl
      (fun j v hj => by
        rw [add_plain, hWc, World.cell?_setCells_out _ _ _ _ _ (fun h _ => absurd h hgN)]
        exact hOb _ v (hcell (k * 4 + j) v (by rwa [List.getElem?_drop] at hj)))
      (fun j hj => by rw [hWc]; exact isSome_setCells _ _ _ _ (fun t ht => hN _ (by omega)) _ (hN _ (by omega)))
      (fun j _ => by rw [hWf, World.frozen?_setCells]; exact hNf _) h1d
  subst hW1
  have hE1 : ∀ x, ((w.alloc (.cells ROW 29)).drew).cell? x = (w.drew.alloc (.cells ROW 29)).cell? x := fun x => rfl
  have hE2 : ∀ x, ((w.alloc (.cells ROW 29)).drew).frozen? x = (w.drew.alloc (.cells ROW 29)).frozen? x := fun x => rfl
  have hF1 : ∀ x, (((w.alloc (.cells ROW 29)).drew.setCells w.heap.size (k * 4) vs).drew).cell? x = ((w.drew.alloc (.cells ROW 29)).setCells w.heap.size (k * 4) vs).cell? x := fun x => rfl
  have hF2 : ∀ x, (((w.alloc (.cells ROW 29)).drew.setCells w.heap.size (k * 4) vs).drew).frozen? x = ((w.drew.alloc (.cells ROW 29)).setCells w.heap.size (k * 4) vs).frozen? x := fun x => rfl
  generalize xs.drop (k * 4) = news at *
  have hz1 : ¬ ((k : Int) = (c : Int)) := by omega
  have hz3 : (c : Int) < (c : Int) + 1 := by omega
  have hkn : (k : Int) ≤ (c : Int) := by omega
  have hck : ¬ (c = k) := by omega
  have hGk : ¬ (G = k) := by omega
  have hGk1 : ¬ (G = k + 1) := by omega
  have hk0 : (0 : Int) ≤ (k : Int) + 1 := by omega
  have hkn1 : (k : Int) ≤ (c : Int) + 1 := by omega
  have hw1 : IntKind.i64.wrap ((k : Int) + 1) = (k : Int) + 1 := by rw [IntKind.wrap_i64]; omega
  have hw2 : IntKind.i64.wrap ((c : Int) + 1) = (c : Int) + 1 := by rw [IntKind.wrap_i64]; omega
  have hw3 : IntKind.i64.wrap ((c : Int) + 1 - (k : Int)) = (c : Int) + 1 - (k : Int) := by rw [IntKind.wrap_i64]; omega
  have HX := Lib.hid HO
  have HY := Lib.hid HG
  clear HO HG HT g2 g3 hW1h hRt hRs hdl hkk hik hold hN hNf hOb hOv hROW hcell h hV
  go_enter Tryz.func60, Tryz.ntmps60
  go_wp2_with (first
    | (at_builtin; refine Lib.wpList_append_run _ rfl _ _ _ _ rfl _ _ rfl rfl _ _ (hrz _) ?_)
    | (at_builtin; refine wpList_copy_runI _ rfl _ _ 25 25 rfl _ _ rfl rfl (hcpA _ hE1 hE2 _ _) ?_))
  go_region_law (refine step_copy_runI rfl _ _ 25 25 rfl (.slice (some ⟨w.heap.size, (k + 1) * 4, none⟩) (c - k) (G - (k + 1))) (.slice (some ⟨g, k * 4, none⟩) (c - k) (c - k)) (by simp [Act.eval, Act.put]) (by simp [Act.eval, Act.put]) (hcpB _ hF1 hF2 3 (G - (k + 1)) (c - k)) ?_)
  go_wp2
  go_ret
  exact ⟨_, rfl, HX.out, HY.out⟩
theorem insertE_any (h : w.ownsRow lo 29 4 (.slice A n c) n xs) (hk : k ≤ n) (hn : n ≤ 1000000) (hlo : lo ≤ w.heap.size) (hV : Blk w vb 29 vs.toArray) (hvb : (Value.slice A n c).ownBlock ≠ some vb) (hvl : vs.length = 4) (h1v : ∀ u ∈ vs, u.oneCell' = true) (h1c : ∀ u ∈ xs, u.oneCell' = true) :
    Calls Tryz.prog 60 #[.slice A n c, .int .i64 (k : Nat), .slice (some ⟨vb, 0, none⟩) 1 1] w fun e w' =>
      ∃ A2 c2, e = .returned (.slice A2 (n + 1) c2) ∧ w'.ownsRow lo 29 4 (.slice A2 (n + 1) c2) (n + 1) (xs.take (k * 4) ++ vs ++ xs.drop (k * 4)) ∧ w.grownBy w' (Value.slice A n c).ownBlock := by
  rcases Nat.lt_or_ge k n with hlt | hge
  · obtain ⟨g, c2, hA, _, _⟩ := h.form (by omega)
    have hnc : n ≤ c := by
      obtain ⟨_, _, he, hnc, _, _⟩ := own_form h
      injection he with _ _ e3
      omega
    injection hA with e1 e2 e3
    subst e1
    subst e3
    by_cases hr : n + 1 ≤ c
    · exact (insE_shift w h hlt hr hn hV (fun e => hvb (by simp [Value.ownBlock, e])) hvl h1v h1c).mono fun e w' ⟨h1, h2, h3⟩ => ⟨_, _, h1, h2, by simpa [Value.ownBlock] using h3⟩
    · exact (insE_grow w h hlt hnc hr hn hlo hV hvl h1v h1c).mono fun e w' ⟨G, h1, h2, h3⟩ => ⟨_, _, h1, h2, by simpa [Value.ownBlock] using h3⟩
  · obtain rfl : k = n := by omega
    have hl := h.1
    refine (insE_end w h hn hlo hV hvl h1v).mono fun e w' ⟨v', h1, h2, h3, _⟩ => ?_
    obtain ⟨A2, c2, rfl, _⟩ := own_form h2
    refine ⟨A2, c2, h1, ?_, h3⟩
    rw [List.take_of_length_le (by omega), List.drop_of_length_le (by omega), List.append_nil]
    exact h2
end
def insK (es : List E) (i : Int) : Nat := es.findIdx (fun e => !decide (e.id < i))
theorem insK_le (es : List E) (i : Int) : insK es i ≤ es.length := List.findIdx_le_length
theorem insK_step {es : List E} {i : Int} {k : Nat} {e : E} (he : es[k]? = some e) (h : k ≤ insK es i) : (¬ e.id < i → insK es i = k) ∧ (e.id < i → k + 1 ≤ insK es i) := by
  obtain ⟨hk, rfl⟩ := List.getElem?_eq_some_iff.1 he
  constructor
  · intro hn
    rcases Nat.lt_or_ge k (insK es i) with hlt | hge
    · have := List.not_of_lt_findIdx hlt
      simp at this
      omega
    · omega
  · intro hlt
    rcases Nat.lt_or_ge k (insK es i) with h1 | hge
    · omega
    · have he2 : insK es i = k := by omega
      have hx : es.findIdx (fun e => !decide (e.id < i)) < es.length := by show insK es i < _; omega
      have := List.findIdx_getElem (w := hx)
      have h3 : es.findIdx (fun e => !decide (e.id < i)) = k := he2
      simp only [h3] at this
      simp at this
      omega
def insOk (g : G) (e : E) : Bool := validG g && okE g.vs.length e && decide (¬ ixN g.es e.id < g.es.length) && decide (g.es.length ≠ 12)
def insG (g : G) (e : E) : G × Bool := if insOk g e then (⟨g.vs, g.es.take (insK g.es e.id) ++ [e] ++ g.es.drop (insK g.es e.id)⟩, true) else (g, false)
theorem insG_no {g : G} {e : E} (h : insOk g e = false) : insG g e = (g, false) := by simp [insG, h]
theorem insG_yes {g : G} {e : E} (h : insOk g e = true) : insG g e = (⟨g.vs, g.es.take (insK g.es e.id) ++ [e] ++ g.es.drop (insK g.es e.id)⟩, true) := by simp [insG, h]
theorem ecs_ins (L : List E) (k : Nat) (e : E) : (ecs L).take (k * 4) ++ ec e ++ (ecs L).drop (k * 4) = ecs (L.take k ++ [e] ++ L.drop k) := by
  rw [ecs_take, ecs_drop, ecs_append, ecs_append]
  simp [ecs]
theorem ec_one (e : E) : ∀ u ∈ ec e, u.oneCell' = true := by
  intro u hu
  simp [ec] at hu
  rcases hu with rfl | rfl | rfl | rfl <;> rfl
end Go.Proofs.YtljggmgijadjaaaGreatDoor
