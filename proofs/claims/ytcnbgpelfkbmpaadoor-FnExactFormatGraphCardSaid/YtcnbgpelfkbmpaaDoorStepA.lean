/- StepFrom, StepTo, StepLetter, HoldsAt of both packages. -/
import Derived.Test.YtcnbgpelfkbmpaaDoorSetV
import Derived.Test.YtcnbgpelfkbmpaaDoorEdgeIx
import Derived.Test.YtcnbgpelfkbmpaaDoorLetA
namespace Go.Proofs.YtcnbgpelfkbmpaaDoor
open Go.RowKit Go.ChangeShapes Go.WideShapes Go.ChangeAt Go.Deep
set_option linter.unusedVariables false
def E0 : E := ⟨0, 0, 0, 0⟩
/-- The edge of a step, and whether there is one. -/
def stE (g : G) (s : St) : E × Bool := if validG g then match g.es[ixN g.es s.ed]? with | some e => (e, true) | none => (E0, false) else (E0, false)
theorem stE_no2 {g : G} (s : St) (h : validG g = false) : stE g s = (E0, false) := by simp [stE, h]
theorem stE_no1 {g : G} {s : St} (h : ¬ ixN g.es s.ed < g.es.length) : stE g s = (E0, false) := by
  unfold stE
  rw [List.getElem?_eq_none (by omega)]
  split <;> rfl
theorem stE_yes {g : G} {s : St} {e : E} (h : validG g = true) (he : g.es[ixN g.es s.ed]? = some e) : stE g s = (e, true) := by simp [stE, h, he]
theorem edgesB_ok {n m : Nat} {es : List E} (h : edgesB n es m = true) {k : Nat} {e : E} (hk : k < m) (he : es[k]? = some e) : okE n e = true ∧ ordE es k = true := by
  unfold edgesB at h
  rw [List.all_eq_true] at h
  have := h k (List.mem_range.2 hk)
  rw [he] at this
  simpa using this
theorem valid_edge {g : G} (h : validG g = true) {k : Nat} {e : E} (he : g.es[k]? = some e) : okE g.vs.length e = true := by
  have hk := (List.getElem?_eq_some_iff.1 he).1
  unfold validG at h
  simp only [Bool.and_eq_true] at h
  exact (edgesB_ok h.1.1.2 hk he).1
theorem okE_bd {n : Int} {e : E} (h : okE n e = true) : 1 ≤ e.id ∧ e.id ≤ 99 ∧ 0 ≤ e.fr ∧ e.fr ≤ n - 1 ∧ 0 ≤ e.to ∧ e.to ≤ n - 1 ∧ 0 ≤ e.lb ∧ e.lb ≤ 2 := by
  unfold okE at h
  simp only [Bool.and_eq_true, inB_true] at h
  omega
theorem valid_len {g : G} (h : validG g = true) : 1 ≤ g.vs.length ∧ g.vs.length ≤ 5 ∧ g.es.length ≤ 12 ∧ ∀ x ∈ g.vs, 0 ≤ x ∧ x ≤ 2 := by
  unfold validG at h
  simp only [Bool.and_eq_true, inB_true, decide_eq_true_eq, List.all_eq_true] at h
  obtain ⟨⟨⟨h1, _⟩, h2⟩, h3⟩ := h
  exact ⟨by omega, by omega, h3, fun x hx => h1 x hx⟩
def stFrom (g : G) (s : St) : Int := if (stE g s).2 then (if s.inv then (stE g s).1.to else (stE g s).1.fr) else -1
def stTo (g : G) (s : St) : Int := stFrom g ⟨s.ed, !s.inv⟩
def stLet (g : G) (s : St) : Int := if (stE g s).2 then (if s.inv then 2 * (stE g s).1.lb + 1 else 2 * (stE g s).1.lb) else -1
theorem stE_lb {g : G} {s : St} (h : (stE g s).2 = true) : 0 ≤ (stE g s).1.lb ∧ (stE g s).1.lb ≤ 2 := by
  unfold stE at h ⊢
  cases hv : validG g
  · simp [hv] at h
  · simp only [hv, if_true] at h ⊢
    cases he : g.es[ixN g.es s.ed]? with
    | none => simp [he] at h
    | some e =>
      have := okE_bd (valid_edge hv he)
      simp only
      omega
end Go.Proofs.YtcnbgpelfkbmpaaDoor
