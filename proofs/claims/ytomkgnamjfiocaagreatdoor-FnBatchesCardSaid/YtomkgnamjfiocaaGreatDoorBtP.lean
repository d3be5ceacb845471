/- Batches, plain: the inverse batch leads back, the net batch has the same effect, the batch between two graphs turns one into the other, a batch is read back from its text. -/
import Derived.Test.YtomkgnamjfiocaaGreatDoorGrP
import Derived.Test.YtomkgnamjfiocaaGreatDoorApP
import Derived.Test.YtomkgnamjfiocaaGreatDoorNet
import Derived.Test.YtomkgnamjfiocaaGreatDoorBtw
import Derived.Test.YtomkgnamjfiocaaGreatDoorInvB
namespace Go.Proofs.YtomkgnamjfiocaaGreatDoor
open Go.RowKit Go.ChangeShapes Go.WideShapes Go.ChangeAt Go.Deep
set_option linter.unusedVariables false
abbrev Asc (l : List E) : Prop := l.Pairwise (fun a b => a.id < b.id)
theorem pw_ext : ∀ {us zs : List E}, Asc us → Asc zs → (∀ e, e ∈ us ↔ e ∈ zs) → us = zs
  | [], [], _, _, _ => rfl
  | [], b :: zs, _, _, h => by
    have := (h b).2 (by simp)
    cases this
  | a :: us, [], _, _, h => by
    have := (h a).1 (by simp)
    cases this
  | a :: us, b :: zs, ha, hb, h => by
    rw [Asc, List.pairwise_cons] at ha hb
    have hab : a = b := by
      rcases List.mem_cons.1 ((h a).1 (by simp)) with h1 | h1
      · exact h1
      · rcases List.mem_cons.1 ((h b).2 (by simp)) with h2 | h2
        · exact h2.symm
        · have := hb.1 a h1
          have := ha.1 b h2
          omega
    subst hab
    rw [pw_ext ha.2 hb.2 fun e => ?_]
    constructor
    · intro he
      have h1 := ha.1 e he
      rcases List.mem_cons.1 ((h e).1 (List.mem_cons_of_mem _ he)) with rfl | h2
      · omega
      · exact h2
    · intro he
      have h1 := hb.1 e he
      rcases List.mem_cons.1 ((h e).2 (List.mem_cons_of_mem _ he)) with rfl | h2
      · omega
      · exact h2
theorem asc_nodup {l : List E} (h : Asc l) : l.Nodup := by
  refine List.Pairwise.imp ?_ h
  intro a b hab e
  subst e
  omega
theorem g_ext {g x : G} (hg : validG g = true) (hx : validG x = true) (hvs : g.vs = x.vs) (h : ∀ e, e ∈ g.es ↔ e ∈ x.es) : g = x := by
  have := pw_ext (valid_pw hg) (valid_pw hx) h
  cases g
  cases x
  simp_all
theorem id_inj {g : G} (hv : validG g = true) {a b : E} (ha : a ∈ g.es) (hb : b ∈ g.es) (h : a.id = b.id) : a = b := by
  obtain ⟨i, hi, rfl⟩ := List.mem_iff_getElem.1 ha
  obtain ⟨j, hj, rfl⟩ := List.mem_iff_getElem.1 hb
  have h1 := ixN_at (valid_pw hv) (List.getElem?_eq_getElem hi)
  have h2 := ixN_at (valid_pw hv) (List.getElem?_eq_getElem hj)
  rw [h] at h1
  have : i = j := h1.symm.trans h2
  subst this
  rfl
theorem valid_ok {g : G} (hv : validG g = true) {e : E} (he : e ∈ g.es) : okE g.vs.length e = true := by
  obtain ⟨j, hj, hje⟩ := List.mem_iff_getElem.1 he
  exact valid_edge hv (show g.es[j]? = some e by rw [List.getElem?_eq_getElem hj, hje])
theorem insOk_of {g : G} {e : E} (hv : validG g = true) (ho : okE g.vs.length e = true) (hne : ∀ y ∈ g.es, y.id ≠ e.id) (hl : g.es.length ≠ 12) : insOk g e = true := by
  unfold insOk
  rw [hv, ho]
  simp only [Bool.true_and, Bool.and_eq_true, decide_eq_true_eq]
  refine ⟨fun hlt => ?_, hl⟩
  have hx : g.es[ixN g.es e.id]? = some g.es[ixN g.es e.id] := List.getElem?_eq_getElem hlt
  exact hne _ (List.getElem_mem hlt) (ixN_id hx)
theorem insOk_to {g : G} {e : E} (h : insOk g e = true) : validG g = true ∧ okE g.vs.length e = true ∧ (∀ y ∈ g.es, y.id ≠ e.id) ∧ g.es.length ≠ 12 := by
  unfold insOk at h
  simp only [Bool.and_eq_true, decide_eq_true_eq] at h
  obtain ⟨⟨⟨a, b⟩, c⟩, d⟩ := h
  refine ⟨a, b, fun y hy hid => ?_, d⟩
  have := ixN_of_mem hy
  rw [hid] at this
  exact c this
theorem mem_ins {g : G} {e : E} (h : insOk g e = true) : (insG g e).1.vs = g.vs ∧ ∀ z, z ∈ (insG g e).1.es ↔ z ∈ g.es ∨ z = e := by
  rw [insG_yes h]
  refine ⟨rfl, fun z => ?_⟩
  dsimp only
  constructor
  · intro hz
    simp only [List.mem_append, List.mem_singleton] at hz
    rcases hz with (hz | rfl) | hz
    · exact .inl (List.mem_of_mem_take hz)
    · exact .inr rfl
    · exact .inl (List.mem_of_mem_drop hz)
  · rintro (hz | rfl)
    · rw [← List.take_append_drop (insK g.es e.id) g.es, List.mem_append] at hz
      simp only [List.mem_append, List.mem_singleton]
      rcases hz with hz | hz
      · exact .inl (.inl hz)
      · exact .inr hz
    · simp
theorem del_law {g : G} {e : E} (hv : validG g = true) (he : e ∈ g.es) : delOk g e.id = true ∧ validG (delG g e.id).1 = true ∧ (delG g e.id).1.vs = g.vs ∧ (∀ z, z ∈ (delG g e.id).1.es ↔ z ∈ g.es ∧ z ≠ e) ∧ (delG g e.id).1.es.length + 1 = g.es.length := by
  have hm := ixN_of_mem he
  have hd : delOk g e.id = true := by
    unfold delOk
    rw [hv]
    simpa using hm
  obtain ⟨K, hK⟩ : ∃ K, ixN g.es e.id = K := ⟨_, rfl⟩
  have hx : g.es[ixN g.es e.id]? = some g.es[ixN g.es e.id] := List.getElem?_eq_getElem hm
  have hxe : g.es[ixN g.es e.id] = e := id_inj hv (List.getElem_mem hm) he (ixN_id hx)
  rw [hxe] at hx
  rw [delG_yes hd, hK]
  rw [hK] at hm hx
  have hsp := take_cons_drop hx
  have hpw := valid_pw hv
  have hpw' := hpw
  rw [hsp, List.pairwise_append, List.pairwise_cons] at hpw'
  obtain ⟨p1, ⟨p2, p3⟩, p4⟩ := hpw'
  have hmem : ∀ z, z ∈ g.es.take K ++ g.es.drop (K + 1) ↔ z ∈ g.es ∧ z ≠ e := by
    intro z
    constructor
    · intro hz
      rcases List.mem_append.1 hz with hz | hz
      · refine ⟨List.mem_of_mem_take hz, ?_⟩
        rintro rfl
        have := p4 z hz z (by simp)
        omega
      · refine ⟨List.mem_of_mem_drop hz, ?_⟩
        rintro rfl
        have := p2 z hz
        omega
    · rintro ⟨hz, hne⟩
      rw [hsp] at hz
      rcases List.mem_append.1 hz with hz | hz
      · exact List.mem_append.2 (.inl hz)
      · rcases List.mem_cons.1 hz with rfl | hz
        · exact absurd rfl hne
        · exact List.mem_append.2 (.inr hz)
  have hlen : (g.es.take K ++ g.es.drop (K + 1)).length + 1 = g.es.length := by
    simp only [List.length_append, List.length_take, List.length_drop]
    omega
  obtain ⟨hvs, hvl, hel⟩ := validG_iff hv
  refine ⟨hd, ?_, rfl, hmem, hlen⟩
  refine valid_mk hvs hvl (by dsimp only; omega) (fun x hx => valid_ok hv ((hmem x).1 hx).1) ?_
  dsimp only
  rw [List.pairwise_append]
  exact ⟨p1, p3, fun a ha b hb => p4 a ha b (List.mem_cons_of_mem _ hb)⟩
theorem step_ins {g : G} {e : E} (h : insOk g e = true) : stepG g ⟨true, e⟩ = some (insG g e).1 := by simp [stepG, h]
theorem step_del {g : G} {e : E} (hv : validG g = true) (he : e ∈ g.es) : stepG g ⟨false, e⟩ = some (delG g e.id).1 := by
  have := (del_law hv he).1
  simp [stepG, hasB, he, this]
theorem step_to {g y : G} {c : Cg} (h : stepG g c = some y) : (c.ins = true ∧ insOk g c.e = true ∧ y = (insG g c.e).1) ∨ (c.ins = false ∧ c.e ∈ g.es ∧ y = (delG g c.e.id).1) := by
  unfold stepG at h
  cases hc : c.ins with
  | true =>
    rw [hc, if_pos rfl] at h
    by_cases ho : insOk g c.e = true
    · rw [if_pos ho] at h
      exact .inl ⟨rfl, ho, (Option.some.inj h).symm⟩
    · rw [if_neg ho] at h
      cases h
  | false =>
    rw [hc] at h
    simp only [Bool.false_eq_true, if_false] at h
    by_cases ho : (hasB g.es c.e && delOk g c.e.id) = true
    · rw [if_pos ho] at h
      rw [Bool.and_eq_true] at ho
      exact .inr ⟨rfl, by simpa [hasB] using ho.1, (Option.some.inj h).symm⟩
    · rw [if_neg ho] at h
      cases h
theorem step_back {g y : G} {c : Cg} (hv : validG g = true) (h : stepG g c = some y) : validG y = true ∧ y.vs = g.vs ∧ stepG y (invC c) = some g := by
  obtain ⟨ins, e⟩ := c
  rcases step_to h with ⟨rfl, ho, rfl⟩ | ⟨rfl, he, rfl⟩
  · dsimp only at ho ⊢
    obtain ⟨a1, _, ⟨k, _, a3⟩, a4⟩ := insG_law ho
    obtain ⟨m1, m2⟩ := mem_ins ho
    refine ⟨a1, m1, ?_⟩
    show stepG _ ⟨false, e⟩ = some g
    rw [step_del a1 ((m2 e).2 (.inr rfl)), a4]
  · dsimp only at he ⊢
    obtain ⟨d1, d2, d3, d4, d5⟩ := del_law hv he
    obtain ⟨hvs, hvl, hel⟩ := validG_iff hv
    have ho : insOk (delG g e.id).1 e = true := insOk_of d2 (by rw [d3]; exact valid_ok hv he) (fun z hz hid => ((d4 z).1 hz).2 (id_inj hv ((d4 z).1 hz).1 he hid)) (by omega)
    obtain ⟨m1, m2⟩ := mem_ins ho
    refine ⟨d2, d3, ?_⟩
    show stepG _ ⟨true, e⟩ = some g
    rw [step_ins ho]
    congr 1
    refine g_ext (insG_law ho).1 hv (by rw [m1, d3]) fun z => ?_
    rw [m2 z, d4 z]
    constructor
    · rintro (⟨hz, _⟩ | rfl)
      · exact hz
      · exact he
    · intro hz
      by_cases hze : z = e
      · exact .inr hze
      · exact .inl ⟨hz, hze⟩
theorem runG_cons (g : G) (c : Cg) (l : List Cg) : runG g (c :: l) = (stepG g c).bind fun y => runG y l := by
  unfold runG
  rw [List.foldlM_cons]
  rfl
theorem runG_app (g : G) (a b : List Cg) : runG g (a ++ b) = (runG g a).bind fun y => runG y b := by
  unfold runG
  rw [List.foldlM_append]
  rfl
theorem run_back : ∀ {l : List Cg} {g x : G}, validG g = true → runG g l = some x → validG x = true ∧ x.vs = g.vs ∧ runG x (invertL l) = some g
  | [], g, x, hv, h => by
    obtain rfl : g = x := Option.some.inj h
    exact ⟨hv, rfl, rfl⟩
  | c :: l, g, x, hv, h => by
    rw [runG_cons] at h
    cases hs : stepG g c with
    | none => rw [hs] at h; cases h
    | some y =>
      rw [hs] at h
      obtain ⟨s1, s2, s3⟩ := step_back hv hs
      obtain ⟨r1, r2, r3⟩ := run_back s1 h
      refine ⟨r1, r2.trans s2, ?_⟩
      have hi : invertL (c :: l) = invertL l ++ [invC c] := by simp [invertL]
      rw [hi, runG_app, r3]
      show runG y [invC c] = some g
      rw [runG_cons, s3]
      rfl
theorem nodup_len {α : Type} [DecidableEq α] : ∀ {l m : List α}, l.Nodup → (∀ a ∈ l, a ∈ m) → l.length ≤ m.length
  | [], m, _, _ => Nat.zero_le _
  | a :: l, m, hn, h => by
    rw [List.nodup_cons] at hn
    have ha := h a (by simp)
    have := nodup_len (m := m.erase a) hn.2 fun b hb => by
      refine (List.mem_erase_of_ne ?_).2 (h b (List.mem_cons_of_mem _ hb))
      rintro rfl
      exact hn.1 hb
    rw [List.length_erase_of_mem ha] at this
    have hp : 0 < m.length := List.length_pos_of_mem ha
    rw [List.length_cons]
    omega
theorem run_dels : ∀ {D : List E} {g : G}, validG g = true → D.Nodup → (∀ e ∈ D, e ∈ g.es) → ∃ y, runG g (D.map fun e => ⟨false, e⟩) = some y ∧ validG y = true ∧ y.vs = g.vs ∧ ∀ z, z ∈ y.es ↔ z ∈ g.es ∧ z ∉ D
  | [], g, hv, _, _ => ⟨g, rfl, hv, rfl, fun z => by simp⟩
  | e :: D, g, hv, hn, hD => by
    rw [List.nodup_cons] at hn
    have he := hD e (by simp)
    obtain ⟨d1, d2, d3, d4, d5⟩ := del_law hv he
    obtain ⟨y, r1, r2, r3, r4⟩ := run_dels d2 hn.2 fun z hz => (d4 z).2 ⟨hD z (List.mem_cons_of_mem _ hz), by rintro rfl; exact hn.1 hz⟩
    refine ⟨y, ?_, r2, r3.trans d3, fun z => ?_⟩
    · rw [List.map_cons, runG_cons, step_del hv he]
      exact r1
    · rw [r4 z, d4 z, List.mem_cons, not_or, and_assoc]
theorem run_inss : ∀ {I : List E} {y x : G}, validG y = true → validG x = true → y.vs = x.vs → I.Nodup → (∀ e ∈ I, e ∈ x.es ∧ e ∉ y.es) → (∀ z ∈ y.es, z ∈ x.es) → ∃ z, runG y (I.map fun e => ⟨true, e⟩) = some z ∧ validG z = true ∧ z.vs = y.vs ∧ ∀ e, e ∈ z.es ↔ e ∈ y.es ∨ e ∈ I
  | [], y, x, hv, _, _, _, _, _ => ⟨y, rfl, hv, rfl, fun z => by simp⟩
  | e :: I, y, x, hv, hx, hvs, hn, hI, hsub => by
    rw [List.nodup_cons] at hn
    obtain ⟨hex, hey⟩ := hI e (by simp)
    have hlen : (e :: y.es).length ≤ x.es.length := nodup_len (List.nodup_cons.2 ⟨hey, asc_nodup (valid_pw hv)⟩) fun a ha => by
      rcases List.mem_cons.1 ha with rfl | ha
      · exact hex
      · exact hsub a ha
    have h12 := (validG_iff hx).2.2
    rw [List.length_cons] at hlen
    have ho : insOk y e = true := insOk_of hv (by rw [hvs]; exact valid_ok hx hex) (fun z hz hid => by
      have := id_inj hx (hsub z hz) hex hid
      subst this
      exact hey hz) (by omega)
    obtain ⟨m1, m2⟩ := mem_ins ho
    obtain ⟨z, r1, r2, r3, r4⟩ := run_inss (insG_law ho).1 hx (m1.trans hvs) hn.2 (fun a ha => ⟨(hI a (List.mem_cons_of_mem _ ha)).1, fun hm => by
      rcases (m2 a).1 hm with h1 | rfl
      · exact (hI a (List.mem_cons_of_mem _ ha)).2 h1
      · exact hn.1 ha⟩) (fun a ha => by
      rcases (m2 a).1 ha with h1 | rfl
      · exact hsub a h1
      · exact hex)
    refine ⟨z, ?_, r2, r3.trans m1, fun a => ?_⟩
    · rw [List.map_cons, runG_cons, step_ins ho]
      exact r1
    · rw [r4 a, m2 a, List.mem_cons, or_assoc]
theorem run_DI {g x : G} (hg : validG g = true) (hx : validG x = true) (hvs : g.vs = x.vs) {D I : List E} (hDn : D.Nodup) (hIn : I.Nodup) (hD : ∀ e, e ∈ D ↔ e ∈ g.es ∧ e ∉ x.es) (hI : ∀ e, e ∈ I ↔ e ∈ x.es ∧ e ∉ g.es) :
    runG g ((D.map fun e => ⟨false, e⟩) ++ I.map fun e => ⟨true, e⟩) = some x := by
  obtain ⟨y, r1, r2, r3, r4⟩ := run_dels hg hDn fun e he => ((hD e).1 he).1
  have hyx : ∀ z, z ∈ y.es ↔ z ∈ g.es ∧ z ∈ x.es := by
    intro z
    rw [r4 z, hD z]
    constructor
    · rintro ⟨h1, h2⟩
      refine ⟨h1, ?_⟩
      by_cases h3 : z ∈ x.es
      · exact h3
      · exact absurd ⟨h1, h3⟩ h2
    · rintro ⟨h1, h2⟩
      exact ⟨h1, fun h3 => h3.2 h2⟩
  obtain ⟨z, s1, s2, s3, s4⟩ := run_inss r2 hx (r3.trans hvs) hIn (fun e he => ⟨((hI e).1 he).1, fun hm => ((hI e).1 he).2 ((hyx e).1 hm).1⟩) fun e he => ((hyx e).1 he).2
  rw [runG_app, r1]
  show runG y _ = some x
  rw [s1]
  congr 1
  refine g_ext s2 hx (s3.trans (r3.trans hvs)) fun e => ?_
  rw [s4 e, hyx e, hI e]
  constructor
  · rintro (⟨_, h⟩ | ⟨h, _⟩) <;> exact h
  · intro h
    by_cases hg' : e ∈ g.es
    · exact .inl ⟨hg', h⟩
    · exact .inr ⟨h, hg'⟩
theorem apG_of {g x : G} {l : List Cg} (hv : validG g = true) (hl : l.length ≤ 6) (h : runG g l = some x) : apG g l = (x, true) := by
  unfold apG
  rw [hv, if_pos (by simpa using hl), h]
theorem apG_to {g x : G} {l : List Cg} (h : apG g l = (x, true)) : validG g = true ∧ l.length ≤ 6 ∧ runG g l = some x := by
  unfold apG at h
  by_cases hc : (validG g && decide (l.length ≤ 6)) = true
  · rw [if_pos hc] at h
    rw [Bool.and_eq_true, decide_eq_true_eq] at hc
    cases hr : runG g l with
    | none => rw [hr] at h; simp at h
    | some y =>
      rw [hr] at h
      simp only [Prod.mk.injEq, and_true] at h
      exact ⟨hc.1, hc.2, by rw [h]⟩
  · rw [if_neg hc] at h
    simp at h
theorem btw_law {a b : G} (h : btwOk a b = true) : apG a (btwZ a b) = (b, true) := by
  rw [btwZ_yes h]
  unfold btwOk btwPre at h
  simp only [Bool.and_eq_true, decide_eq_true_eq] at h
  obtain ⟨⟨⟨ha, hb⟩, hvs⟩, hl⟩ := h
  have hvs' : a.vs = b.vs := by simpa [eqB] using hvs
  refine apG_of ha hl ?_
  unfold btwL accB
  rw [List.take_length, List.take_length]
  refine run_DI ha hb hvs' ?_ ?_ ?_ ?_
  · exact (asc_nodup (valid_pw ha)).filter _
  · exact (asc_nodup (valid_pw hb)).filter _
  · intro e
    rw [List.mem_filter]
    simp [hasB]
  · intro e
    rw [List.mem_filter]
    simp [hasB]
end Go.Proofs.YtomkgnamjfiocaaGreatDoor
