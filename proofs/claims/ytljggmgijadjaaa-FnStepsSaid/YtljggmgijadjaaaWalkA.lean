/- nodesOf of the program. -/
import Derived.Test.YtljggmgijadjaaaStepsW
import Derived.IntWalk
namespace Go.Proofs.Ytljggmgijadjaaa
open Go.RowKit Go.ChangeShapes Go.WideShapes Go.ChangeAt Go.Deep
set_option linter.unusedVariables false
/-- The nodes of a walk's first k steps. -/
def nodesUp (g : G) (s : Int) (l : List St) (k : Nat) : List Int := s :: (l.take k).map (stTo g)
/-- Whether the first k steps fit. -/
def okUp (g : G) (s : Int) (l : List St) (k : Nat) : Bool := (List.range k).all fun j => match l[j]?, (s :: l.map (stTo g))[j]? with | some x, some a => stFrom g x == a | _, _ => true
def walkOk (g : G) (s : Int) (l : List St) : Bool := validG g && inB s 0 (g.vs.length - 1) && decide (l.length ≤ 60) && okUp g s l l.length
def nodesZ (g : G) (s : Int) (l : List St) : List Int := if walkOk g s l then nodesUp g s l l.length else []
theorem nodesUp_len {g : G} {s : Int} {l : List St} {k : Nat} (h : k ≤ l.length) : (nodesUp g s l k).length = k + 1 := by simp [nodesUp, Nat.min_eq_left h]
theorem nodesUp_zero (g : G) (s : Int) (l : List St) : nodesUp g s l 0 = [s] := rfl
theorem nodesUp_succ {g : G} {s : Int} {l : List St} {k : Nat} {x : St} (h : l[k]? = some x) : nodesUp g s l (k + 1) = nodesUp g s l k ++ [stTo g x] := by
  obtain ⟨hk, rfl⟩ := List.getElem?_eq_some_iff.1 h
  unfold nodesUp
  rw [List.take_succ_eq_append_getElem hk, List.map_append]
  rfl
theorem nodesUp_last {g : G} {s : Int} {l : List St} {k : Nat} (h : k ≤ l.length) : (nodesUp g s l k)[k]? = (s :: l.map (stTo g))[k]? := by
  unfold nodesUp
  cases k with
  | zero => rfl
  | succ k =>
    rw [List.getElem?_cons_succ, List.getElem?_cons_succ, List.getElem?_map, List.getElem?_map, List.getElem?_take, if_pos (by omega)]
theorem okUp_succ {g : G} {s : Int} {l : List St} {k : Nat} {x : St} {a : Int} (h : l[k]? = some x) (ha : (nodesUp g s l k)[k]? = some a) : okUp g s l (k + 1) = (okUp g s l k && (stFrom g x == a)) := by
  have hk := (List.getElem?_eq_some_iff.1 h).1
  rw [nodesUp_last (by omega)] at ha
  unfold okUp
  rw [List.range_succ, List.all_append]
  simp [h, ha]
theorem okUp_false {g : G} {s : Int} {l : List St} {q m : Nat} (h : okUp g s l (q + 1) = false) (hq : q < m) : okUp g s l m = false := by
  unfold okUp at *
  rw [List.all_eq_false] at *
  obtain ⟨x, hx, hf⟩ := h
  exact ⟨x, by rw [List.mem_range] at *; omega, hf⟩
/-- A step that begins at a node that is not negative has an edge, and it ends at such a node. -/
theorem stTo_nonneg {g : G} {x : St} {a : Int} (h : stFrom g x = a) (ha : 0 ≤ a) : (stE g x).2 = true ∧ 0 ≤ stTo g x := by
  unfold stFrom at h
  cases hk : (stE g x).2
  · rw [hk] at h
    simp at h
    omega
  · refine ⟨rfl, ?_⟩
    have hE : stE g ⟨x.ed, !x.inv⟩ = stE g x := rfl
    unfold stTo stFrom
    rw [hE, hk]
    have hb : 0 ≤ (stE g x).1.fr ∧ 0 ≤ (stE g x).1.to := by
      unfold stE at hk ⊢
      cases hv : validG g
      · simp [hv] at hk
      · simp only [hv, if_true] at hk ⊢
        cases he : g.es[ixN g.es x.ed]? with
        | none => simp [he] at hk
        | some e =>
          have := okE_bd (valid_edge hv he)
          simp only
          omega
    simp only [if_true]
    split
    · exact hb.2
    · exact hb.1
theorem walkOk_1 {g : G} {s : Int} {l : List St} (h : validG g = false) : walkOk g s l = false := by simp [walkOk, h]
theorem walkOk_2 {g : G} {s : Int} {l : List St} (h : inB s 0 (g.vs.length - 1) = false) : walkOk g s l = false := by simp [walkOk, h]
theorem walkOk_3 {g : G} {s : Int} {l : List St} (h : 60 < l.length) : walkOk g s l = false := by
  have : decide (l.length ≤ 60) = false := by simp; omega
  simp [walkOk, this]
theorem walkOk_4 {g : G} {s : Int} {l : List St} {k : Nat} (h : okUp g s l (k + 1) = false) (hk : k < l.length) : walkOk g s l = false := by simp [walkOk, okUp_false h hk]
theorem walkOk_5 {g : G} {s : Int} {l : List St} (h1 : validG g = true) (h2 : inB s 0 (g.vs.length - 1) = true) (h3 : l.length ≤ 60) (h4 : okUp g s l l.length = true) : walkOk g s l = true := by simp [walkOk, h1, h2, h3, h4]
theorem nodesZ_no {g : G} {s : Int} {l : List St} (h : walkOk g s l = false) : nodesZ g s l = [] := by simp [nodesZ, h]
theorem nodesZ_yes {g : G} {s : Int} {l : List St} (h : walkOk g s l = true) : nodesZ g s l = nodesUp g s l l.length := by simp [nodesZ, h]
theorem own_block {w : World} {base k size : Nat} {e : TypeId} {v : Value} {xs : List Value} (h : w.ownsRow base e size v (k + 1) xs) : ∃ b d, v = .slice (some ⟨b, 0, none⟩) (k + 1) d ∧ base ≤ b ∧ b < w.heap.size := by
  rcases id h.2 with ⟨_, h0⟩ | ⟨g1, cap, cur, hv, _⟩
  · omega
  · exact ⟨g1, cap, hv, ownBlock_some h (by rw [hv]; simp [Value.ownBlock])⟩
theorem ris_nil (w : World) (e : TypeId) (size : Nat) : RIs w w.heap.size w.heap.size e size none 0 0 [] := RIs.of (World.ownsRow_nil _ _ _ _) (by omega)
theorem own_snoc_int {w : World} {base n : Nat} {e : TypeId} {v x : Value} {L : List Int} (y : Int) (hx : x = iv y) (h : w.ownsRow base e 1 v (n + 1) (L.map iv ++ x.cells.toList)) : w.ownsRow base e 1 v (n + 1) ((L ++ [y]).map iv) := by
  subst hx
  rw [List.map_append]
  exact h
end Go.Proofs.Ytljggmgijadjaaa
