/- What sorted and compacted numbers are: each member once, ascending; sets of small numbers as bits. -/
import Derived.Test.YtomkgnamjfiocaaGreatDoorAsc
import Derived.Test.YtomkgnamjfiocaaGreatDoorBaseF
namespace Go.Proofs.YtomkgnamjfiocaaGreatDoor
open Go.RowKit Go.ChangeShapes Go.WideShapes Go.ChangeAt Go.Deep
set_option linter.unusedVariables false
theorem sortZ_perm (xs : List Int) : List.Perm (sortZ xs) xs := List.mergeSort_perm _ _
theorem sortZ_asc (xs : List Int) : (sortZ xs).Pairwise (fun x y => x ≤ y) := by
  have := List.pairwise_mergeSort (le := fun x y : Int => decide (x ≤ y)) (by intro a b c h1 h2; simp at *; omega) (by intro a b; simp; omega) xs
  simpa [sortZ] using this
theorem cu_step (S : List Int) (hs : S.Pairwise (fun x y => x ≤ y)) : ∀ k, k ≤ S.length → (Lib.compactUpTo S.toArray k).Pairwise (fun x y => x < y) ∧ ∀ x, x ∈ Lib.compactUpTo S.toArray k ↔ x ∈ S.take k := by
  intro k
  induction k with
  | zero => intro _; simp [Lib.compactUpTo]
  | succ k ih =>
    intro hk
    obtain ⟨h1, h2⟩ := ih (by omega)
    have hg : S.toArray[k]! = S[k] := by simp [getElem!_pos, show k < S.length by omega]
    have hle : ∀ x ∈ S.take k, x ≤ S[k] := by
      intro x hx
      obtain ⟨j, hj, rfl⟩ := List.mem_iff_getElem.1 hx
      rw [List.getElem_take]
      rw [List.length_take] at hj
      exact List.pairwise_iff_getElem.1 hs j k (by omega) (by omega) (by omega)
    rw [Lib.compactUpTo_succ, hg, List.take_succ_eq_append_getElem (by omega)]
    by_cases hkeep : Lib.keeps S.toArray k = true
    · rw [if_pos hkeep]
      refine ⟨List.pairwise_append.2 ⟨h1, List.pairwise_singleton _ _, ?_⟩, fun x => by rw [List.mem_append, List.mem_append, h2]⟩
      intro x hx y hy
      simp at hy
      subst hy
      have hx' := (h2 x).1 hx
      rcases Int.lt_or_eq_of_le (hle x hx') with h | h
      · exact h
      · exfalso
        obtain ⟨j, hj, hje⟩ := List.mem_iff_getElem.1 hx'
        rw [List.getElem_take] at hje
        rw [List.length_take] at hj
        unfold Lib.keeps at hkeep
        simp only [decide_eq_true_eq] at hkeep
        rcases hkeep with h0 | hne
        · omega
        · rw [hg] at hne
          have hg1 : S.toArray[k - 1]! = S[k - 1] := by simp [getElem!_pos, show k - 1 < S.length by omega]
          rw [hg1] at hne
          have a1 : S[j]'(by omega) ≤ S[k - 1] := by
            rcases Nat.lt_or_ge j (k - 1) with hlt | hge
            · exact List.pairwise_iff_getElem.1 hs j (k - 1) (by omega) (by omega) hlt
            · have : j = k - 1 := by omega
              subst this
              exact Int.le_refl _
          have a2 : S[k - 1] ≤ S[k] := List.pairwise_iff_getElem.1 hs (k - 1) k (by omega) (by omega) (by omega)
          omega
    · rw [if_neg hkeep, List.append_nil]
      refine ⟨h1, fun x => ?_⟩
      rw [h2, List.mem_append]
      refine ⟨fun h => .inl h, fun h => ?_⟩
      rcases h with h | h
      · exact h
      · simp at h
        subst h
        unfold Lib.keeps at hkeep
        simp only [decide_eq_true_eq, not_or, Decidable.not_not] at hkeep
        obtain ⟨h0, he⟩ := hkeep
        rw [hg] at he
        have hg1 : S.toArray[k - 1]! = S[k - 1] := by simp [getElem!_pos, show k - 1 < S.length by omega]
        rw [hg1] at he
        rw [he]
        exact List.mem_iff_getElem.2 ⟨k - 1, by rw [List.length_take]; omega, by rw [List.getElem_take]⟩
theorem ascZ_lt (xs : List Int) : (ascZ xs).Pairwise (fun x y => x < y) := by
  unfold ascZ Lib.compact
  exact (cu_step _ (sortZ_asc xs) _ (Nat.le_refl _)).1
theorem ascZ_mem (xs : List Int) (x : Int) : x ∈ ascZ xs ↔ x ∈ xs := by
  unfold ascZ Lib.compact
  rw [(cu_step _ (sortZ_asc xs) _ (Nat.le_refl _)).2, List.take_length]
  exact (sortZ_perm xs).mem_iff
theorem asc_ext : ∀ (xs ys : List Int), xs.Pairwise (fun x y => x < y) → ys.Pairwise (fun x y => x < y) → (∀ x, x ∈ xs ↔ x ∈ ys) → xs = ys
  | [], [], _, _, _ => rfl
  | [], y :: ys, _, _, h => by have := (h y).2 (by simp); simp at this
  | x :: xs, [], _, _, h => by have := (h x).1 (by simp); simp at this
  | x :: xs, y :: ys, hx, hy, h => by
    obtain ⟨hx1, hx2⟩ := List.pairwise_cons.1 hx
    obtain ⟨hy1, hy2⟩ := List.pairwise_cons.1 hy
    have e : x = y := by
      have h1 := (h x).1 (by simp)
      have h2 := (h y).2 (by simp)
      simp only [List.mem_cons] at h1 h2
      rcases h1 with h1 | h1
      · exact h1
      · rcases h2 with h2 | h2
        · exact h2.symm
        · have := hx1 _ h2; have := hy1 _ h1; omega
    subst e
    congr 1
    refine asc_ext xs ys hx2 hy2 fun z => ?_
    have hz := h z
    simp only [List.mem_cons] at hz
    constructor
    · intro h1
      rcases hz.1 (.inr h1) with h2 | h2
      · subst h2; exact absurd (hx1 _ h1) (by omega)
      · exact h2
    · intro h1
      rcases hz.2 (.inr h1) with h2 | h2
      · subst h2; exact absurd (hy1 _ h1) (by omega)
      · exact h2
theorem lt_nodup {xs : List Int} (h : xs.Pairwise (fun x y => x < y)) : xs.Nodup := List.Pairwise.imp (fun hlt => by omega) h
theorem ascZ_len (xs : List Int) : (ascZ xs).length = xs.length ↔ xs.Nodup := by
  constructor
  · intro h
    have hl : (Lib.compactUpTo (sortZ xs).toArray (sortZ xs).length).length = (sortZ xs).length := by
      have h1 : (sortZ xs).length = xs.length := (sortZ_perm xs).length_eq
      rw [h1]
      unfold ascZ Lib.compact at h
      rwa [h1] at h
    unfold Lib.compactUpTo at hl
    rw [List.length_map] at hl
    have hall := (List.length_filter_eq_length_iff (l := List.range (sortZ xs).length) (p := Lib.keeps (sortZ xs).toArray)).1 (by rw [hl, List.length_range])
    have hc : ascZ xs = sortZ xs := Lib.compact_all _ (fun j hj => hall j (List.mem_range.2 hj))
    have := lt_nodup (ascZ_lt xs)
    rw [hc] at this
    exact (sortZ_perm xs).nodup_iff.1 this
  · intro h
    have hn := (sortZ_perm xs).nodup_iff.2 h
    have hc : ascZ xs = sortZ xs := by
      refine Lib.compact_all _ fun j hj => ?_
      unfold Lib.keeps
      simp only [decide_eq_true_eq]
      rcases Nat.eq_zero_or_pos j with h0 | h0
      · exact .inl h0
      · right
        have e1 : (sortZ xs).toArray[j]! = (sortZ xs)[j] := by simp [getElem!_pos, hj]
        have e2 : (sortZ xs).toArray[j - 1]! = (sortZ xs)[j - 1] := by simp [getElem!_pos, show j - 1 < (sortZ xs).length by omega]
        rw [e1, e2]
        intro he
        have := List.pairwise_iff_getElem.1 hn (j - 1) j (by omega) hj (by omega)
        exact this he.symm
    rw [hc]
    exact (sortZ_perm xs).length_eq
/-- Small numbers as bits. -/
def maskZ (xs : List Int) : Nat := xs.foldl (fun m x => m ||| 2 ^ x.toNat) 0
theorem maskZ_snoc (xs : List Int) (x : Int) : maskZ (xs ++ [x]) = maskZ xs ||| 2 ^ x.toNat := by simp [maskZ]
theorem mask_bit (i : Nat) : ∀ (xs : List Int) (m : Nat), (xs.foldl (fun m x => m ||| 2 ^ x.toNat) m).testBit i = (m.testBit i || decide (∃ x ∈ xs, x.toNat = i))
  | [], m => by simp
  | x :: xs, m => by
    rw [List.foldl_cons, mask_bit i xs, Nat.testBit_or, Nat.testBit_two_pow, Bool.or_assoc]
    congr 1
    rw [Bool.eq_iff_iff]
    simp
theorem maskZ_bit (xs : List Int) (i : Nat) : (maskZ xs).testBit i = decide (∃ x ∈ xs, x.toNat = i) := by
  rw [maskZ, mask_bit]
  simp
theorem maskZ_lt {xs : List Int} (h : ∀ x ∈ xs, 0 ≤ x ∧ x ≤ 4) : maskZ xs < 32 := by
  refine Nat.lt_pow_two_of_testBit (n := 5) _ fun j hj => ?_
  rw [maskZ_bit]
  simp
  intro x hx
  have := h x hx
  omega
def setZ (m : Nat) (k : Nat) : List Int := ((List.range k).filter (fun i => m.testBit i)).map (fun (i : Nat) => (i : Int))
theorem setZ_succ (m k : Nat) : setZ m (k + 1) = setZ m k ++ (if m.testBit k then [(k : Int)] else []) := by
  unfold setZ
  rw [List.range_succ, List.filter_append, List.map_append]
  congr 1
  cases h : m.testBit k <;> simp [h]
theorem setZ_len (m k : Nat) : (setZ m k).length ≤ k := by
  unfold setZ
  rw [List.length_map]
  exact Nat.le_trans (List.length_filter_le _ _) (by simp)
theorem setZ_asc {xs : List Int} (h : ∀ x ∈ xs, 0 ≤ x ∧ x ≤ 4) : setZ (maskZ xs) 30 = ascZ xs := by
  refine asc_ext _ _ ?_ (ascZ_lt xs) fun x => ?_
  · unfold setZ
    rw [List.pairwise_map]
    refine List.Pairwise.imp (fun {a b} (hab : a < b) => by omega) (List.Pairwise.filter _ List.pairwise_lt_range)
  · rw [ascZ_mem]
    unfold setZ
    simp only [List.mem_map, List.mem_filter, List.mem_range, maskZ_bit, decide_eq_true_eq]
    constructor
    · rintro ⟨i, ⟨_, y, hy, rfl⟩, rfl⟩
      have := h y hy
      rwa [show ((y.toNat : Nat) : Int) = y by omega]
    · intro hx
      have := h x hx
      exact ⟨x.toNat, ⟨by omega, x, hx, rfl⟩, by omega⟩
theorem stTo_bd {g : G} {s : St} (h : (stE g s).2 = true) : 0 ≤ stTo g s ∧ stTo g s ≤ 4 := by
  have hE : stE g ⟨s.ed, !s.inv⟩ = stE g s := rfl
  unfold stTo stFrom
  rw [hE, h]
  have hb : 0 ≤ (stE g s).1.fr ∧ 0 ≤ (stE g s).1.to ∧ (stE g s).1.fr ≤ 4 ∧ (stE g s).1.to ≤ 4 := by
    unfold stE at h ⊢
    cases hv : validG g
    · simp [hv] at h
    · simp only [hv, if_true] at h ⊢
      have h5 : g.vs.length ≤ 5 := by
        have h3 := hv
        simp only [validG, Bool.and_eq_true] at h3
        have := inB_true.1 h3.1.2
        omega
      cases he : g.es[ixN g.es s.ed]? with
      | none => simp [he] at h
      | some e =>
        have := okE_bd (valid_edge hv he)
        simp only
        omega
  simp only [if_true]
  split <;> omega
theorem stepsF_ok {g : G} {node : Int} {s : St} (h : s ∈ stepsF g node) : (stE g s).2 = true := by
  unfold stepsF at h
  split at h
  · rename_i hv
    unfold accSt at h
    rw [List.take_length, List.mem_flatMap] at h
    obtain ⟨e, he, hs⟩ := h
    have hed : s.ed = e.id := by
      unfold stepsOf at hs
      rw [List.mem_append] at hs
      rcases hs with hs | hs
      · split at hs <;> simp at hs
        rw [hs]
      · split at hs <;> simp at hs
        rw [hs]
    have hlt := ixN_of_mem' he
    unfold stE
    simp only [hv, if_true]
    rw [hed]
    rw [List.getElem?_eq_getElem hlt]
  · simp at h
where ixN_of_mem' {es : List E} {e : E} (h : e ∈ es) : ixN es e.id < es.length := List.findIdx_lt_length_of_exists ⟨e, h, by simp⟩
def afterZ (g : G) (node letter : Int) : List Int := ascZ ((stepsW g node letter).map (stTo g))
theorem stepsW_bd {g : G} {node letter : Int} : ∀ x ∈ (stepsW g node letter).map (stTo g), 0 ≤ x ∧ x ≤ 4 := by
  intro x hx
  obtain ⟨s, hs, rfl⟩ := List.mem_map.1 hx
  unfold stepsW at hs
  exact stTo_bd (stepsF_ok (List.mem_filter.1 hs).1)
def simpleZ (g : G) (s : Int) (l : List St) : Bool := walkOk g s l && decide ((nodesZ g s l).Nodup)
end Go.Proofs.YtomkgnamjfiocaaGreatDoor
