/- Batches, plain: the net batch has the same effect; a batch is read back from its text. -/
import Derived.Test.YtomkgnamjfiocaaGreatDoorBtP
namespace Go.Proofs.YtomkgnamjfiocaaGreatDoor
open Go.RowKit Go.ChangeShapes Go.WideShapes Go.ChangeAt Go.Deep
set_option linter.unusedVariables false
/-- What a list of changes says that leads from g to y, nothing said twice. -/
structure Says (g y : G) (L : List Cg) : Prop where
  hg : validG g = true
  hy : validG y = true
  vs : g.vs = y.vs
  nd : L.Nodup
  d : ∀ e, (⟨false, e⟩ : Cg) ∈ L ↔ e ∈ g.es ∧ e ∉ y.es
  i : ∀ e, (⟨true, e⟩ : Cg) ∈ L ↔ e ∈ y.es ∧ e ∉ g.es
theorem netAt_none {L : List Cg} {c : Cg} : ∀ {k : Nat}, netAt L c k = -1 → invC c ∉ L.take k
  | 0, _ => by simp
  | k + 1, h => by
    unfold netAt at h
    by_cases hk : L[k]? = some (invC c)
    · rw [if_pos hk] at h
      omega
    · rw [if_neg hk] at h
      have ih := netAt_none h
      rw [List.take_add_one, List.mem_append, not_or]
      refine ⟨ih, ?_⟩
      intro hm
      cases hx : L[k]? with
      | none => rw [hx] at hm; simp at hm
      | some z =>
        rw [hx] at hm
        have : invC c = z := by simpa using hm
        exact hk (by rw [hx, this])
theorem netAt_some {L : List Cg} {c : Cg} : ∀ {k j : Nat}, netAt L c k = (j : Int) → L[j]? = some (invC c)
  | 0, j, h => by
    unfold netAt at h
    omega
  | k + 1, j, h => by
    unfold netAt at h
    by_cases hk : L[k]? = some (invC c)
    · rw [if_pos hk] at h
      have : k = j := by omega
      rw [← this]
      exact hk
    · rw [if_neg hk] at h
      exact netAt_some h
theorem net_cases (L : List Cg) (c : Cg) (hn : L.Nodup) : (invC c ∉ L ∧ netStep L c = L ++ [c]) ∨ (invC c ∈ L ∧ (netStep L c).Nodup ∧ ∀ z, z ∈ netStep L c ↔ z ∈ L ∧ z ≠ invC c) := by
  have hb := netAt_lt L c L.length
  by_cases h : netAt L c L.length = -1
  · have h1 := netAt_none h
    rw [List.take_length] at h1
    exact .inl ⟨h1, netStep_no h⟩
  · obtain ⟨j, hj⟩ : ∃ j : Nat, netAt L c L.length = (j : Int) := ⟨(netAt L c L.length).toNat, by omega⟩
    have hx := netAt_some hj
    have hjl := (List.getElem?_eq_some_iff.1 hx).1
    have hsp := take_cons_drop hx
    have hn' := hn
    rw [hsp, List.nodup_append] at hn'
    obtain ⟨p1, p2, p3⟩ := hn'
    rw [List.nodup_cons] at p2
    rw [netStep_yes hj]
    refine .inr ⟨List.mem_of_getElem? hx, ?_, fun z => ?_⟩
    · rw [List.nodup_append]
      exact ⟨p1, p2.2, fun a ha b hb' => p3 a ha b (List.mem_cons_of_mem _ hb')⟩
    · constructor
      · intro hz
        rcases List.mem_append.1 hz with hz | hz
        · exact ⟨List.mem_of_mem_take hz, fun e => p3 z hz (invC c) (by simp) e⟩
        · refine ⟨List.mem_of_mem_drop hz, ?_⟩
          rintro rfl
          exact p2.1 hz
      · rintro ⟨hz, hne⟩
        rw [hsp] at hz
        rcases List.mem_append.1 hz with hz | hz
        · exact List.mem_append.2 (.inl hz)
        · rcases List.mem_cons.1 hz with rfl | hz
          · exact absurd rfl hne
          · exact List.mem_append.2 (.inr hz)
theorem Says.step {g y y' : G} {L : List Cg} {c : Cg} (h : Says g y L) (hs : stepG y c = some y') : Says g y' (netStep L c) := by
  obtain ⟨v1, v2, _⟩ := step_back h.hy hs
  obtain ⟨ins, e⟩ := c
  rcases step_to hs with ⟨rfl, ho, rfl⟩ | ⟨rfl, he, rfl⟩
  · dsimp only at ho v1 v2 ⊢
    obtain ⟨_, _, hne, _⟩ := insOk_to ho
    have hey : e ∉ y.es := fun hm => hne e hm rfl
    obtain ⟨_, m2⟩ := mem_ins ho
    rcases net_cases L ⟨true, e⟩ h.nd with ⟨hn, hst⟩ | ⟨hn, hnd, hst⟩
    · have heg : e ∉ g.es := fun hm => hn ((h.d e).2 ⟨hm, hey⟩)
      rw [hst]
      refine ⟨h.hg, v1, h.vs.trans v2.symm, ?_, fun f => ?_, fun f => ?_⟩
      · rw [List.nodup_append]
        refine ⟨h.nd, by simp, ?_⟩
        intro a ha b hb hab
        rw [List.mem_singleton] at hb
        subst hab
        subst hb
        exact hey ((h.i e).1 ha).1
      · rw [List.mem_append, h.d f, m2 f]
        simp only [List.mem_singleton, Cg.mk.injEq, Bool.false_eq_true, false_and, or_false, not_or]
        constructor
        · rintro ⟨a, b⟩
          exact ⟨a, b, by rintro rfl; exact heg a⟩
        · rintro ⟨a, b, _⟩
          exact ⟨a, b⟩
      · rw [List.mem_append, h.i f, m2 f]
        simp only [List.mem_singleton, Cg.mk.injEq, true_and]
        constructor
        · rintro (⟨a, b⟩ | rfl)
          · exact ⟨.inl a, b⟩
          · exact ⟨.inr rfl, heg⟩
        · rintro ⟨a | rfl, b⟩
          · exact .inl ⟨a, b⟩
          · exact .inr rfl
    · have hn' : (⟨false, e⟩ : Cg) ∈ L := hn
      have heg := ((h.d e).1 hn').1
      refine ⟨h.hg, v1, h.vs.trans v2.symm, hnd, fun f => ?_, fun f => ?_⟩
      · rw [hst, h.d f, m2 f]
        show (f ∈ g.es ∧ f ∉ y.es) ∧ (⟨false, f⟩ : Cg) ≠ ⟨false, e⟩ ↔ _
        simp only [ne_eq, Cg.mk.injEq, true_and, not_or, and_assoc]
      · rw [hst, h.i f, m2 f]
        show (f ∈ y.es ∧ f ∉ g.es) ∧ (⟨true, f⟩ : Cg) ≠ ⟨false, e⟩ ↔ _
        simp only [ne_eq, Cg.mk.injEq, Bool.true_eq_false, false_and, not_false_eq_true, and_true]
        constructor
        · rintro ⟨a, b⟩
          exact ⟨.inl a, b⟩
        · rintro ⟨a | rfl, b⟩
          · exact ⟨a, b⟩
          · exact absurd heg b
  · dsimp only at he v1 v2 ⊢
    obtain ⟨_, _, _, d4, _⟩ := del_law h.hy he
    rcases net_cases L ⟨false, e⟩ h.nd with ⟨hn, hst⟩ | ⟨hn, hnd, hst⟩
    · have heg : e ∈ g.es := by
        by_cases hm : e ∈ g.es
        · exact hm
        · exact absurd ((h.i e).2 ⟨he, hm⟩) hn
      rw [hst]
      refine ⟨h.hg, v1, h.vs.trans v2.symm, ?_, fun f => ?_, fun f => ?_⟩
      · rw [List.nodup_append]
        refine ⟨h.nd, by simp, ?_⟩
        intro a ha b hb hab
        rw [List.mem_singleton] at hb
        subst hab
        subst hb
        exact ((h.d e).1 ha).2 he
      · rw [List.mem_append, h.d f, d4 f]
        simp only [List.mem_singleton, Cg.mk.injEq, true_and]
        constructor
        · rintro (⟨a, b⟩ | rfl)
          · exact ⟨a, fun hh => b hh.1⟩
          · exact ⟨heg, fun hh => hh.2 rfl⟩
        · rintro ⟨a, b⟩
          by_cases hfe : f = e
          · exact .inr hfe
          · exact .inl ⟨a, fun hh => b ⟨hh, hfe⟩⟩
      · rw [List.mem_append, h.i f, d4 f]
        simp only [List.mem_singleton, Cg.mk.injEq, Bool.true_eq_false, false_and, or_false]
        constructor
        · rintro ⟨a, b⟩
          exact ⟨⟨a, by rintro rfl; exact b heg⟩, b⟩
        · rintro ⟨⟨a, _⟩, b⟩
          exact ⟨a, b⟩
    · have hn' : (⟨true, e⟩ : Cg) ∈ L := hn
      have heg := ((h.i e).1 hn').2
      refine ⟨h.hg, v1, h.vs.trans v2.symm, hnd, fun f => ?_, fun f => ?_⟩
      · rw [hst, h.d f, d4 f]
        show (f ∈ g.es ∧ f ∉ y.es) ∧ (⟨false, f⟩ : Cg) ≠ ⟨true, e⟩ ↔ _
        simp only [ne_eq, Cg.mk.injEq, Bool.false_eq_true, false_and, not_false_eq_true, and_true]
        constructor
        · rintro ⟨a, b⟩
          exact ⟨a, fun hh => b hh.1⟩
        · rintro ⟨a, b⟩
          refine ⟨a, fun hh => b ⟨hh, ?_⟩⟩
          rintro rfl
          exact heg a
      · rw [hst, h.i f, d4 f]
        show (f ∈ y.es ∧ f ∉ g.es) ∧ (⟨true, f⟩ : Cg) ≠ ⟨true, e⟩ ↔ _
        simp only [ne_eq, Cg.mk.injEq, true_and]
        constructor
        · rintro ⟨⟨a, b⟩, c⟩
          exact ⟨⟨a, c⟩, b⟩
        · rintro ⟨⟨a, c⟩, b⟩
          exact ⟨⟨a, b⟩, c⟩
theorem Says.run {g : G} : ∀ {l L : List Cg} {y x : G}, Says g y L → runG y l = some x → Says g x (l.foldl netStep L)
  | [], L, y, x, h, hr => by
    obtain rfl : y = x := Option.some.inj hr
    exact h
  | c :: l, L, y, x, h, hr => by
    rw [runG_cons] at hr
    cases hs : stepG y c with
    | none => rw [hs] at hr; cases hr
    | some z =>
      rw [hs] at hr
      exact (h.step hs).run hr
theorem netB_eq (l : List Cg) : netB l = ((netL l l.length).filter fun c => c.ins == false) ++ (netL l l.length).filter fun c => c.ins == true := by
  unfold netB
  show (netO _ 0 ++ netF (decide (0 = 1)) _ _) ++ netF (decide (1 = 1)) _ _ = _
  unfold netO netF
  rw [List.take_length]
  rfl
theorem filt_map (b : Bool) (L : List Cg) : L.filter (fun c => c.ins == b) = ((L.filter fun c => c.ins == b).map (·.e)).map fun e => ⟨b, e⟩ := by
  rw [List.map_map]
  conv => lhs; rw [← List.map_id (L.filter _)]
  refine List.map_congr_left fun c hc => ?_
  have := (List.mem_filter.1 hc).2
  obtain ⟨i, e⟩ := c
  simp only [beq_iff_eq] at this
  subst this
  rfl
theorem net_law {g x : G} {l : List Cg} (h : apG g l = (x, true)) : apG g (netB l) = (x, true) ∧ (netB l).length ≤ l.length := by
  obtain ⟨hv, hl, hr⟩ := apG_to h
  have h0 : Says g g [] := ⟨hv, hv, rfl, List.nodup_nil, fun e => by simp, fun e => by simp⟩
  have hS := h0.run hr
  have hN : l.foldl netStep [] = netL l l.length := by unfold netL; rw [List.take_length]
  rw [hN] at hS
  obtain ⟨L, hL⟩ : ∃ L, netL l l.length = L := ⟨_, rfl⟩
  have hlen := netL_len l l.length
  have heq := netB_eq l
  rw [hL] at hS hlen heq
  have hsum : (netB l).length ≤ l.length := by
    unfold netB
    rw [hL, netO_two]
    exact hlen
  have hnd : ∀ b, ((L.filter fun c => c.ins == b).map (·.e)).Nodup := by
    intro b
    have h1 : (L.filter fun c => c.ins == b).Nodup := hS.nd.filter _
    rw [List.Nodup, List.pairwise_map]
    refine List.Pairwise.imp_of_mem ?_ h1
    intro c d hc hd hcd hed
    apply hcd
    have e1 := (List.mem_filter.1 hc).2
    have e2 := (List.mem_filter.1 hd).2
    obtain ⟨i, e⟩ := c
    obtain ⟨j, f⟩ := d
    simp only [beq_iff_eq] at e1 e2 hed
    rw [e1, e2, hed]
  have hmem : ∀ b e, e ∈ (L.filter fun c => c.ins == b).map (·.e) ↔ (⟨b, e⟩ : Cg) ∈ L := by
    intro b e
    rw [List.mem_map]
    constructor
    · rintro ⟨c, hc, rfl⟩
      have e1 := (List.mem_filter.1 hc)
      obtain ⟨i, e⟩ := c
      have : i = b := by simpa using e1.2
      rw [← this]
      exact e1.1
    · intro hm
      exact ⟨⟨b, e⟩, List.mem_filter.2 ⟨hm, by simp⟩, rfl⟩
  refine ⟨apG_of hv (by omega) ?_, hsum⟩
  rw [heq, filt_map false L, filt_map true L]
  exact run_DI hv hS.hy hS.vs (hnd false) (hnd true) (fun e => (hmem false e).trans (hS.d e)) (fun e => (hmem true e).trans (hS.i e))
theorem inv_law {g x : G} {l : List Cg} (h : apG g l = (x, true)) : apG x (invertL l) = (g, true) := by
  obtain ⟨hv, hl, hr⟩ := apG_to h
  obtain ⟨r1, _, r3⟩ := run_back hv hr
  exact apG_of r1 (by rw [invertL_len]; exact hl) r3
theorem join_glue_b (x : List UInt8) (r : List (List UInt8)) : Lib.join (x :: r) [32] = glue 32 (x :: r) := by
  rw [Lib.join_cons]
  show x ++ (r.map ([32] ++ ·)).flatten = x ++ r.flatMap (fun y => 32 :: y)
  rw [List.flatMap_def]
  rfl
theorem fmtC_no (c : Cg) : (32 : UInt8) ∉ fmtC c := by
  unfold fmtC
  rw [List.mem_cons, not_or]
  refine ⟨?_, fmtE_no⟩
  cases c.ins <;> decide
theorem prsCs_fmt : ∀ (l : List Cg), (∀ c ∈ l, okE 5 c.e = true) → prsCs (l.map fmtC) = some l
  | [], _ => rfl
  | c :: l, h => by
    have h1 : prsC (fmtC c) = some c := by
      show Option.map (fun e => (⟨(if c.ins then (43 : UInt8) else 45) == 43, e⟩ : Cg)) (prsE (fmtE c.e)) = some c
      rw [(prsE_iff (fmtE c.e) c.e).2 ⟨h c (by simp), rfl⟩]
      obtain ⟨i, e⟩ := c
      cases i <;> rfl
    have h2 := prsCs_fmt l fun x hx => h x (List.mem_cons_of_mem _ hx)
    rw [List.map_cons, prsCs, h1]
    simp only
    rw [h2]
    rfl
theorem batch_back {l : List Cg} (h : fmtBt l ≠ []) : prsBt (fmtBt l) = some l := by
  have hc : (decide (l.length ≤ 6) && l.all (fun c => okE 5 c.e)) = true := by
    cases hb : (decide (l.length ≤ 6) && l.all (fun c => okE 5 c.e)) with
    | true => rfl
    | false =>
      exfalso
      apply h
      unfold fmtBt
      rw [hb]
      rfl
  have hok : ∀ c ∈ l, okE 5 c.e = true := by
    rw [Bool.and_eq_true] at hc
    exact List.all_eq_true.1 hc.2
  have hf : fmtBt l = Lib.join (l.map fmtC) [32] := by unfold fmtBt; rw [if_pos hc]
  have hcut : cutL 32 (fmtBt l) = l.map fmtC := by
    cases l with
    | nil => rw [hf] at h; exact absurd rfl h
    | cons c l =>
      rw [hf, List.map_cons, join_glue_b]
      refine cutL_of_glue 32 _ _ (fmtC_no c) ?_
      intro y hy
      obtain ⟨z, _, rfl⟩ := List.mem_map.1 hy
      exact fmtC_no z
  rw [prsBt_if h, hcut, prsCs_fmt l hok]
  simp
end Go.Proofs.YtomkgnamjfiocaaGreatDoor
