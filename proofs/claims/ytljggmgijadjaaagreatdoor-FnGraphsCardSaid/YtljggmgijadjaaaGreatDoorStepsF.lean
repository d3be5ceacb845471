/- StepsFrom of both packages. -/
import Derived.Test.YtljggmgijadjaaaGreatDoorStepA
import Derived.Test.YtljggmgijadjaaaGreatDoorRevG
namespace Go.Proofs.YtljggmgijadjaaaGreatDoor
open Go.RowKit Go.ChangeShapes Go.WideShapes Go.ChangeAt Go.Deep
set_option linter.unusedVariables false
def stepsOf (node : Int) (e : E) : List St := (if e.fr = node then [⟨e.id, false⟩] else []) ++ (if e.to = node then [⟨e.id, true⟩] else [])
def accSt (es : List E) (node : Int) (k : Nat) : List St := (es.take k).flatMap (stepsOf node)
theorem accSt_succ {es : List E} {node : Int} {k : Nat} {e : E} (h : es[k]? = some e) : accSt es node (k + 1) = accSt es node k ++ stepsOf node e := by
  obtain ⟨hk, rfl⟩ := List.getElem?_eq_some_iff.1 h
  unfold accSt
  rw [List.take_succ_eq_append_getElem hk, List.flatMap_append]
  simp
theorem stepsOf_len (node : Int) (e : E) : (stepsOf node e).length ≤ 2 := by
  unfold stepsOf
  split <;> split <;> simp
theorem accSt_len (es : List E) (node : Int) : ∀ k, (accSt es node k).length ≤ 2 * k
  | 0 => by simp [accSt]
  | k + 1 => by
    have ih := accSt_len es node k
    cases h : es[k]? with
    | none =>
      have : es.length ≤ k := by simpa using h
      have h1 : accSt es node (k + 1) = accSt es node k := by
        unfold accSt
        rw [List.take_of_length_le (by omega), List.take_of_length_le this]
      rw [h1]
      omega
    | some e =>
      rw [accSt_succ h, List.length_append]
      have := stepsOf_len node e
      omega
def stepsF (g : G) (node : Int) : List St := if validG g then accSt g.es node g.es.length else []
theorem own_snoc_st {w : World} {base q : Nat} {e : TypeId} {v x : Value} {L : List St} (y : St) (hx : x = .agg #[.int .i64 y.ed, .bool y.inv]) (h : w.ownsRow base e 2 v (q + 1) (stcs L ++ x.cells.toList)) : w.ownsRow base e 2 v (q + 1) (stcs (L ++ [y])) := by
  subst hx
  rw [stcs_append]
  exact h
theorem edge_cells {w : World} {B b o n k : Nat} {es : List E} {e : E} (h : Reads w B 4 (some ⟨b, o, none⟩) n (ecs es)) (he : es[k]? = some e) : w.cell? ⟨b, o + k * 4, none⟩ = some (.int .i64 e.id) ∧ w.cell? ⟨b, o + k * 4 + 1, none⟩ = some (.int .i64 e.fr) ∧ w.cell? ⟨b, o + k * 4 + 2, none⟩ = some (.int .i64 e.to) ∧ w.cell? ⟨b, o + k * 4 + 3, none⟩ = some (.int .i64 e.lb) := by
  have hk := (List.getElem?_eq_some_iff.1 he).1
  have hl : es.length = n := by have := h.1; rw [ecs_len] at this; omega
  obtain ⟨b2, o2, hA, _, e2, he2, c0, c1, c2, c3⟩ := edge_at (k := k) h hl (by omega)
  have hbo : b = b2 ∧ o = o2 := by simpa using hA
  obtain ⟨rfl, rfl⟩ := hbo
  obtain rfl : e = e2 := by rw [he] at he2; simpa using he2
  exact ⟨c0, c1, c2, c3⟩
set_option maxRecDepth 4000 in
set_option maxHeartbeats 2000000 in
theorem l4From_is (w : World) {A B : Option Addr} {n c m d : Nat} {g : G} (h : GRd w A n B m g) (hm12 : m ≤ 12) (node : Int) :
    Calls Tryz.prog 130 #[.agg #[.slice A n c, .slice B m d], .int .i64 node] w fun e w' => ∃ A2 n2 c2, e = .returned (.slice A2 n2 c2) ∧ RIs w' w.heap.size w'.heap.size 106 2 A2 n2 c2 (stcs (accSt g.es node m)) ∧ Below w.heap.size w w' := by
  have hm := h.bm
  have HLM := Lib.hid h.gr.lm
  have hB0 : Below w.heap.size w (w.alloc (.cells #[.slice A n c, .slice B m d] 27)) := (Below.refl _ _).alloc (Nat.le_refl _) _
  have kB : (w.alloc (.cells #[.slice A n c, .slice B m d] 27)).cell? ⟨w.heap.size, 1, none⟩ = some (.slice B m d) := by go_simp
  have hzG : (w.alloc (.cells #[.slice A n c, .slice B m d] 27)).heap.size = w.heap.size + 1 := by simp
  have ho2 := own_made (w := (w.alloc (.cells #[.slice A n c, .slice B m d] 27))) (base := w.heap.size + 1) 106 2 (by simp)
  have hb2 : Below (w.heap.size + 1) (w.alloc (.cells #[.slice A n c, .slice B m d] 27)) ((w.alloc (.cells #[.slice A n c, .slice B m d] 27)).alloc (.cells #[] 106)) := (Below.refl _ _).alloc (by simp) _
  have hz2 : w.heap.size + 1 ≤ ((w.alloc (.cells #[.slice A n c, .slice B m d] 27)).alloc (.cells #[] 106)).heap.size := by simp
  rw [hzG] at ho2
  clear hzG
  go_enter Tryz.func130, Tryz.ntmps130
  go_wp2_with fail
  generalize (w.alloc (.cells #[.slice A n c, .slice B m d] 27)) = wG at *
  go_loopw [5, 6] (fun v i wr => ∃ (k : Nat), k ≤ m ∧ i = .int .i64 k ∧ wr.ownsRow (w.heap.size + 1) 106 2 v (accSt g.es node k).length (stcs (accSt g.es node k)) ∧ Below (w.heap.size + 1) wG wr ∧ w.heap.size + 1 ≤ wr.heap.size) (fun _ i _ => m - (intOf i).toNat)
  case atStart => exact ⟨0, Nat.zero_le _, rfl, ho2, hb2, hz2⟩
  case round =>
    obtain ⟨k, hk, rfl, hown, hbel, hz4⟩ := hrel
    have hbw : Below w.heap.size w _ := hB0.trans (hbel.mono (Nat.le_succ _))
    have kBr := (hbel.cell (p := ⟨w.heap.size, 1, none⟩) (Nat.lt_succ_self _)).trans kB
    by_cases hlt : k < m
    · obtain ⟨b, o, rfl, had, e, he, c0, c1, c2, c3⟩ := edge_at (h.edges.up hbw).rd HLM.out hlt
      have HK := Lib.hid (fun w' (hb : Below w.heap.size w w') => edge_cells (h.edges.up hb).rd he)
      have hsucc := accSt_succ (node := node) he
      have hlen := accSt_len g.es node k
      have q3 : Small ((accSt g.es node k).length + 1) := small_of (by omega)
      have q4 : Small ((accSt g.es node k).length + 1 + 1) := small_of (by omega)
      have h1f := stcs_one [St.mk e.id false]
      have h1t := stcs_one [St.mk e.id true]
      obtain ⟨L, hL⟩ : ∃ L, accSt g.es node k = L := ⟨_, rfl⟩
      rw [hL] at hown q3 q4 hsucc
      by_cases h1 : e.fr = node
      · by_cases h2 : e.to = node
        · skip
          have hst : accSt g.es node (k + 1) = ((L ++ [St.mk e.id false]) ++ [St.mk e.id true]) := by rw [hsucc, stepsOf, if_pos h1, if_pos h2]; simp
          have HST := Lib.hid hst
          have hq1 : (e.fr == node) = true := by simpa using h1
          have hq2 : (e.to == node) = true := by simpa using h2
          clear hst hsucc h1 h2 he hL hlen
          go_wp2_with (first
            | (at_builtin; refine ap_plain _ app_step (by decide) (w.heap.size + 1) (.tmp 41) (.tmp 49) rfl rfl _ _ _ rfl (hown5.alloc _) _ _ 1 1 _ rfl (reads_new _ rfl) h1t q4 (Nat.le_trans hz5 (by simp)) ?_; intro v6 w6 hown6 hg6 hat6; clear hat6; have hb6 := below_grown_own (hb5.alloc hz5 _) (hown5.alloc _) hg6 (Nat.le_refl _) (Nat.le_trans hz5 (by simp)); have hz6 : w.heap.size + 1 ≤ w6.heap.size := Nat.le_trans hz5 (Nat.le_trans (by simp) hg6.size); replace hown6 := own_snoc_st (St.mk e.id true) rfl hown6; clear hg6)
            | (at_builtin; refine ap_plain _ app_step (by decide) (w.heap.size + 1) (.tmp 23) (.tmp 31) rfl rfl _ _ _ rfl (hown.alloc _) _ _ 1 1 _ rfl (reads_new _ rfl) h1f q3 (Nat.le_trans hz4 (by simp)) ?_; intro v5 w5 hown5 hg5 hat5; clear hat5; have hb5 := below_grown_own (hbel.alloc hz4 _) (hown.alloc _) hg5 (Nat.le_refl _) (Nat.le_trans hz4 (by simp)); have hz5 : w.heap.size + 1 ≤ w5.heap.size := Nat.le_trans hz4 (Nat.le_trans (by simp) hg5.size); replace hown5 := own_snoc_st (St.mk e.id false) rfl hown5; clear hg5; have kB5 := (hb5.cell (p := ⟨w.heap.size, 1, none⟩) (Nat.lt_succ_self _)).trans kB; obtain ⟨c05, c15, c25, _⟩ := HK.out w5 (hB0.trans (hb5.mono (Nat.le_succ _)))))
          go_roundw
          case rel => exact ⟨k + 1, by omega, by go_num, by rw [HST.out]; simpa using hown6, hb6, hz6⟩
          case measure => simp [intOf]; omega
        · skip
          have hst : accSt g.es node (k + 1) = (L ++ [St.mk e.id false]) := by rw [hsucc, stepsOf, if_pos h1, if_neg h2]; simp
          have HST := Lib.hid hst
          have hq1 : (e.fr == node) = true := by simpa using h1
          have hq2 : (e.to == node) = false := by simpa using h2
          clear hst hsucc h1 h2 he hL hlen
          go_wp2_with (first
            | (at_builtin; refine ap_plain _ app_step (by decide) (w.heap.size + 1) (.tmp 23) (.tmp 31) rfl rfl _ _ _ rfl (hown.alloc _) _ _ 1 1 _ rfl (reads_new _ rfl) h1f q3 (Nat.le_trans hz4 (by simp)) ?_; intro v5 w5 hown5 hg5 hat5; clear hat5; have hb5 := below_grown_own (hbel.alloc hz4 _) (hown.alloc _) hg5 (Nat.le_refl _) (Nat.le_trans hz4 (by simp)); have hz5 : w.heap.size + 1 ≤ w5.heap.size := Nat.le_trans hz4 (Nat.le_trans (by simp) hg5.size); replace hown5 := own_snoc_st (St.mk e.id false) rfl hown5; clear hg5; have kB5 := (hb5.cell (p := ⟨w.heap.size, 1, none⟩) (Nat.lt_succ_self _)).trans kB; obtain ⟨c05, c15, c25, _⟩ := HK.out w5 (hB0.trans (hb5.mono (Nat.le_succ _)))))
          go_roundw
          case rel => exact ⟨k + 1, by omega, by go_num, by rw [HST.out]; simpa using hown5, hb5, hz5⟩
          case measure => simp [intOf]; omega
      · by_cases h2 : e.to = node
        · skip
          have hst : accSt g.es node (k + 1) = (L ++ [St.mk e.id true]) := by rw [hsucc, stepsOf, if_neg h1, if_pos h2]; simp
          have HST := Lib.hid hst
          have hq1 : (e.fr == node) = false := by simpa using h1
          have hq2 : (e.to == node) = true := by simpa using h2
          clear hst hsucc h1 h2 he hL hlen
          go_wp2_with (first
            | (at_builtin; refine ap_plain _ app_step (by decide) (w.heap.size + 1) (.tmp 41) (.tmp 49) rfl rfl _ _ _ rfl (hown.alloc _) _ _ 1 1 _ rfl (reads_new _ rfl) h1t q3 (Nat.le_trans hz4 (by simp)) ?_; intro v5 w5 hown5 hg5 hat5; clear hat5; have hb5 := below_grown_own (hbel.alloc hz4 _) (hown.alloc _) hg5 (Nat.le_refl _) (Nat.le_trans hz4 (by simp)); have hz5 : w.heap.size + 1 ≤ w5.heap.size := Nat.le_trans hz4 (Nat.le_trans (by simp) hg5.size); replace hown5 := own_snoc_st (St.mk e.id true) rfl hown5; clear hg5))
          go_roundw
          case rel => exact ⟨k + 1, by omega, by go_num, by rw [HST.out]; simpa using hown5, hb5, hz5⟩
          case measure => simp [intOf]; omega
        · skip
          have hst : accSt g.es node (k + 1) = L := by rw [hsucc, stepsOf, if_neg h1, if_neg h2]; simp
          have HST := Lib.hid hst
          have hq1 : (e.fr == node) = false := by simpa using h1
          have hq2 : (e.to == node) = false := by simpa using h2
          clear hst hsucc h1 h2 he hL hlen
          go_wp2
          go_roundw
          case rel => exact ⟨k + 1, by omega, by go_num, by rw [HST.out]; simpa using hown, hbel, hz4⟩
          case measure => simp [intOf]; omega
    · obtain rfl : k = m := by omega
      obtain ⟨A2, c2, rfl, _⟩ := own_form hown
      have hlen := accSt_len g.es node k
      have hown' := (RIs.of hown (by omega)).wide (Nat.le_succ _) (Nat.le_refl _)
      clear hlen
      go_wp2
      go_ret
      exact ⟨_, _, _, rfl, hown', hbw⟩
end Go.Proofs.YtljggmgijadjaaaGreatDoor
