/- Graphs, plain: an edge put in is found and taken out again; a graph is read back from its text; turned twice it is itself. And a drawn region whose values are known. -/
import Derived.Test.YtomkgnamjfiocaaGreatDoorPrsG
import Derived.Test.YtomkgnamjfiocaaGreatDoorBaseC
import Derived.Test.YtomkgnamjfiocaaGreatDoorBaseD
import Derived.Test.YtomkgnamjfiocaaGreatDoorBaseB
namespace Go.Proofs.YtomkgnamjfiocaaGreatDoor
open Go.RowKit Go.ChangeShapes Go.WideShapes Go.ChangeAt Go.Deep
set_option linter.unusedVariables false
theorem valid_mk {g : G} (h1 : ∀ v ∈ g.vs, 0 ≤ v ∧ v ≤ 2) (h2 : 1 ≤ g.vs.length ∧ g.vs.length ≤ 5) (h3 : g.es.length ≤ 12) (h4 : ∀ e ∈ g.es, okE g.vs.length e = true) (h5 : g.es.Pairwise (fun a b => a.id < b.id)) : validG g = true := by
  unfold validG
  simp only [Bool.and_eq_true, decide_eq_true_eq, List.all_eq_true]
  refine ⟨⟨⟨fun v hv => inB_true.2 (h1 v hv), ?_⟩, inB_true.2 (by omega)⟩, h3⟩
  unfold edgesB
  rw [List.all_eq_true]
  intro k hk
  have hkl : k < g.es.length := List.mem_range.1 hk
  have hx : g.es[k]? = some g.es[k] := List.getElem?_eq_getElem hkl
  rw [hx]
  simp only [Bool.and_eq_true]
  refine ⟨h4 _ (List.getElem_mem hkl), ?_⟩
  cases k with
  | zero => rfl
  | succ k =>
    have hy : g.es[k]? = some g.es[k] := List.getElem?_eq_getElem (by omega)
    simp only [ordE, hy, hx, decide_eq_true_eq]
    exact List.pairwise_iff_getElem.1 h5 k (k + 1) (by omega) hkl (by omega)
theorem valid_pw {g : G} (h : validG g = true) : g.es.Pairwise (fun a b => a.id < b.id) :=
  List.pairwise_iff_getElem.2 fun i j hi hj hij => sorted_ids h j i _ _ hij (List.getElem?_eq_getElem hi) (List.getElem?_eq_getElem hj)
theorem ixN_at {es : List E} (hp : es.Pairwise (fun a b => a.id < b.id)) {k : Nat} {e : E} (hk : es[k]? = some e) : ixN es e.id = k := by
  have hm := ixN_of_mem (List.mem_of_getElem? hk)
  have hkl := (List.getElem?_eq_some_iff.1 hk).1
  have hke := (List.getElem?_eq_some_iff.1 hk).2
  have hx : es[ixN es e.id]? = some es[ixN es e.id] := List.getElem?_eq_getElem hm
  have hid := ixN_id hx
  rw [List.pairwise_iff_getElem] at hp
  rcases Nat.lt_trichotomy (ixN es e.id) k with h | h | h
  · have := hp _ _ hm hkl h
    rw [hke] at this
    omega
  · exact h
  · have := hp _ _ hkl hm h
    rw [hke] at this
    omega
theorem insK_take {es : List E} {i : Int} : ∀ x ∈ es.take (insK es i), x.id < i := by
  intro x hx
  obtain ⟨j, hj, rfl⟩ := List.mem_iff_getElem.1 hx
  rw [List.length_take] at hj
  have h1 := List.not_of_lt_findIdx (p := fun e : E => !decide (e.id < i)) (xs := es) (i := j) (show j < es.findIdx _ by unfold insK at hj; omega)
  rw [List.getElem_take]
  simpa using h1
theorem insK_drop {es : List E} {i : Int} (hp : es.Pairwise (fun a b => a.id < b.id)) : ∀ x ∈ es.drop (insK es i), i ≤ x.id := by
  intro x hx
  obtain ⟨j, hj, rfl⟩ := List.mem_iff_getElem.1 hx
  rw [List.length_drop] at hj
  have hk : insK es i < es.length := by omega
  have h1 : ¬ (es[insK es i]).id < i := fun hlt => by
    have := (insK_step (i := i) (List.getElem?_eq_getElem hk) (Nat.le_refl _)).2 hlt
    omega
  rw [List.getElem_drop]
  rcases Nat.eq_zero_or_pos j with rfl | h0
  · simp only [Nat.add_zero]
    omega
  · have := List.pairwise_iff_getElem.1 hp (insK es i) (insK es i + j) hk (by omega) (by omega)
    omega
theorem insG_law {g : G} {e : E} (h : insOk g e = true) : validG (insG g e).1 = true ∧ (insG g e).2 = true ∧ (∃ k : Nat, ixE (insG g e).1.es e.id = (k : Int) ∧ (insG g e).1.es[k]? = some e) ∧ delG (insG g e).1 e.id = (g, true) := by
  rw [insG_yes h]
  have h' := h
  unfold insOk at h'
  simp only [Bool.and_eq_true, decide_eq_true_eq] at h'
  obtain ⟨⟨⟨hv, hok⟩, hnf⟩, h12⟩ := h'
  obtain ⟨hvs, hvl, hel⟩ := validG_iff hv
  have hpw := valid_pw hv
  have hK := insK_le g.es e.id
  obtain ⟨K, hKe⟩ : ∃ K, insK g.es e.id = K := ⟨_, rfl⟩
  have ht := insK_take (es := g.es) (i := e.id)
  have hd := insK_drop (i := e.id) hpw
  rw [hKe] at hK ht hd
  have hne : ∀ x ∈ g.es, x.id ≠ e.id := by
    intro x hx hid
    have := ixN_of_mem hx
    rw [hid] at this
    exact hnf this
  have hd' : ∀ x ∈ g.es.drop K, e.id < x.id := fun x hx => by
    have h1 := hd x hx
    have h2 := hne x (List.mem_of_mem_drop hx)
    omega
  have hpw2 : (g.es.take K ++ [e] ++ g.es.drop K).Pairwise (fun a b => a.id < b.id) := by
    have hspl : (g.es.take K ++ g.es.drop K).Pairwise (fun a b => a.id < b.id) := by rw [List.take_append_drop]; exact hpw
    rw [List.pairwise_append] at hspl
    rw [List.append_assoc, List.pairwise_append]
    refine ⟨hspl.1, ?_, ?_⟩
    · rw [List.singleton_append, List.pairwise_cons]
      exact ⟨hd', hspl.2.1⟩
    · intro a ha b hb
      rw [List.singleton_append] at hb
      rcases List.mem_cons.1 hb with rfl | hb
      · exact ht a ha
      · exact hspl.2.2 a ha b hb
  have hlen : (g.es.take K).length = K := by rw [List.length_take]; omega
  have hat : (g.es.take K ++ [e] ++ g.es.drop K)[K]? = some e := by
    rw [List.append_assoc, List.getElem?_append_right (by omega), hlen]
    simp
  have hix := ixN_at hpw2 hat
  have hvn : validG ⟨g.vs, g.es.take K ++ [e] ++ g.es.drop K⟩ = true := by
    refine valid_mk hvs hvl ?_ ?_ hpw2
    · simp only [List.length_append, List.length_take, List.length_drop, List.length_singleton]
      omega
    · intro x hx
      simp only [List.mem_append, List.mem_singleton] at hx
      have hold : ∀ y ∈ g.es, okE g.vs.length y = true := fun y hy => by
        obtain ⟨j, hj, hje⟩ := List.mem_iff_getElem.1 hy
        exact valid_edge hv (show g.es[j]? = some y by rw [List.getElem?_eq_getElem hj, hje])
      rcases hx with (hx | rfl) | hx
      · exact hold x (List.mem_of_mem_take hx)
      · exact hok
      · exact hold x (List.mem_of_mem_drop hx)
  have hKl : K < (g.es.take K ++ [e] ++ g.es.drop K).length := (List.getElem?_eq_some_iff.1 hat).1
  rw [hKe]
  dsimp only
  refine ⟨hvn, rfl, ⟨K, by rw [ixE_yes (by rw [hix]; exact hKl), hix], hat⟩, ?_⟩
  have hdel : delOk ⟨g.vs, g.es.take K ++ [e] ++ g.es.drop K⟩ e.id = true := by
    unfold delOk
    rw [hvn]
    simp only [Bool.true_and, decide_eq_true_eq]
    rw [hix]
    exact hKl
  rw [delG_yes hdel]
  dsimp only
  rw [hix]
  have e1 : (g.es.take K ++ [e] ++ g.es.drop K).take K = g.es.take K := by
    rw [List.append_assoc, List.take_append_of_le_length (by omega), List.take_of_length_le (by omega)]
  have e2 : (g.es.take K ++ [e] ++ g.es.drop K).drop (K + 1) = g.es.drop K := by
    rw [List.drop_append_of_le_length (by simp; omega), List.drop_of_length_le (by simp; omega), List.nil_append]
  rw [e1, e2, List.take_append_drop]
theorem revG_two (g : G) : revG (revG g) = g := by
  unfold revG
  simp only [List.map_map]
  have : (revE ∘ revE) = id := by
    funext e
    rfl
  rw [this, List.map_id]
theorem okE_five {n : Int} {e : E} (hn : n ≤ 5) (h : okE n e = true) : okE 5 e = true := by
  have := okE_iff.1 h
  exact okE_iff.2 (by omega)
theorem prsEs_fmt : ∀ (es : List E), (∀ e ∈ es, okE 5 e = true) → prsEs (es.map fmtE) = some es
  | [], _ => rfl
  | e :: es, h => by
    have h1 := (prsE_iff (fmtE e) e).2 ⟨h e (by simp), rfl⟩
    have h2 := prsEs_fmt es fun x hx => h x (List.mem_cons_of_mem _ hx)
    rw [List.map_cons, prsEs, h1]
    simp only
    rw [h2]
    rfl
theorem vals_dv : ∀ (xs : List Int), (∀ v ∈ xs, 0 ≤ v ∧ v ≤ 2) → (xs.flatMap Lib.itoa).map dv = xs ∧ (32 : UInt8) ∉ xs.flatMap Lib.itoa
  | [], _ => by simp
  | x :: xs, h => by
    obtain ⟨i1, i2⟩ := vals_dv xs fun v hv => h v (List.mem_cons_of_mem _ hv)
    have hx := h x (by simp)
    obtain ⟨b, hb, hbn⟩ := itoa_dig (x := x) (by omega) (by omega)
    rw [List.flatMap_cons, hb]
    refine ⟨?_, ?_⟩
    · rw [List.map_append, i1]
      simp only [List.map_cons, List.map_nil, List.singleton_append, List.cons.injEq, and_true]
      unfold dv
      omega
    · simp only [List.singleton_append, List.mem_cons, not_or]
      refine ⟨?_, i2⟩
      rintro rfl
      simp at hbn
      omega
theorem graph_back (g : G) : prsGrB (fmtG g) = validG g ∧ (validG g = true → prsGr (fmtG g) = g) := by
  cases hv : validG g with
  | false =>
    have hf : fmtG g = [] := by unfold fmtG; rw [hv]; rfl
    have hp : prsG [] = none := by unfold prsG; simp [cutL, prsEs]
    refine ⟨?_, by simp⟩
    unfold prsGrB
    rw [hf, hp]
    rfl
  | true =>
    obtain ⟨hvs, hvl, hel⟩ := validG_iff hv
    obtain ⟨hdv, h32⟩ := vals_dv g.vs hvs
    have hok : ∀ e ∈ g.es, okE 5 e = true := fun y hy => by
      obtain ⟨j, hj, hje⟩ := List.mem_iff_getElem.1 hy
      exact okE_five (by omega) (valid_edge hv (show g.es[j]? = some y by rw [List.getElem?_eq_getElem hj, hje]))
    have hf : fmtG g = glue 32 (g.vs.flatMap Lib.itoa :: g.es.map fmtE) := by
      unfold fmtG
      rw [hv, if_pos rfl, edges_back]
      rfl
    have hcut : cutL 32 (fmtG g) = g.vs.flatMap Lib.itoa :: g.es.map fmtE := by
      rw [hf]
      refine cutL_of_glue 32 _ _ h32 ?_
      intro y hy
      obtain ⟨e, he, rfl⟩ := List.mem_map.1 hy
      exact fmtE_no
    have hne : fmtG g ≠ [] := by
      intro e
      have h0 : cutL 32 [] = [[]] := by simp [cutL]
      rw [e, h0] at hcut
      injection hcut with h1 _
      rw [← h1] at hdv
      rw [← hdv] at hvl
      simp at hvl
    have key : prsG (fmtG g) = some g := by
      rw [prsG_if hcut, prsEs_fmt g.es hok]
      simp only
      rw [hdv, if_pos ⟨rfl, hne⟩]
    unfold prsGrB prsGr
    rw [key]
    exact ⟨rfl, fun _ => rfl⟩
theorem edge_back {l : List UInt8} (h : prsEB l = true) : fmtE (prsEN l) = l := by
  unfold prsEB at h
  obtain ⟨e, he⟩ := Option.isSome_iff_exists.1 h
  unfold prsEN
  rw [he]
  exact ((prsE_iff l e).1 he).2
structure JK (w : World) (V : Nat → Value → World → Prop) (lo : Nat) (L : Nat → Bool) (f : Nat → Value) (w' : World) : Prop where
  k : ∃ x : Kept w, w' = x.W
  v : ∀ k, L k = true → V k (f (lo + k)) w'
/-- A value that is told, or a graph that is told. -/
def Gv (cs : List Value) (gs : List (Option G)) (k : Nat) (v : Value) (w' : World) : Prop := match gs.getD k none with
  | some g => ∃ A n c B m d, v = .agg #[.slice A n c, .slice B m d] ∧ GRd w' A n B m g
  | none => v = cs.getD k undef
theorem Gv.up {cs : List Value} {gs : List (Option G)} {k : Nat} {v : Value} {w' w'' : World} (h : Gv cs gs k v w') (hb : Below w'.heap.size w' w'') : Gv cs gs k v w'' := by
  unfold Gv at h ⊢
  split
  · rename_i g hg
    rw [hg] at h
    obtain ⟨A, n, c, B, m, d, e, hG⟩ := h
    exact ⟨A, n, c, B, m, d, e, hG.up hb⟩
  · rename_i hg
    rw [hg] at h
    exact h
theorem JK.put {w w' w'' : World} {cs : List Value} {gs : List (Option G)} {lo i : Nat} {L : Nat → Bool} {f : Nat → Value} {x : Value} (h : JK w (Gv cs gs) lo L f w') (hb : Below w'.heap.size w' w'') (hx : Gv cs gs i x w'') : JK w (Gv cs gs) lo (fun k => decide (k = i) || L k) (upd f (lo + i) x) w'' := by
  obtain ⟨y, rfl⟩ := h.k
  refine ⟨⟨⟨w'', below_then y.be hb⟩, rfl⟩, fun k hk => ?_⟩
  by_cases hki : k = i
  · subst hki
    rw [upd_same]
    exact hx
  · rw [upd_ne f x (by omega)]
    exact (h.v k (by simpa [hki] using hk)).up hb
theorem wanted_of {o : Oper} {ops : Array Oper} {b : Act} {j d : Nat} {v : Bool} (hg : o.guard = some (j, v)) (hd : (ops[j]?).bind (·.dst) = some d) (h : b.tmps.getD d undef = .bool v) : Region.wanted o (yielded ops b.tmps) = true := by
  have h2 : b.tmps[d]? = some (.bool v) := by
    rw [Array.getD_eq_getD_getElem?] at h
    cases hx : b.tmps[d]? with
    | none => rw [hx] at h; cases h
    | some u => rw [hx] at h; exact congrArg some h
  simp [Region.wanted, hg, yielded, hd, h2]
end Go.Proofs.YtomkgnamjfiocaaGreatDoor
