/- eqEdge, eqEdgeS, eqGraph of equal things; szIntS, szEdgeS, szGraph. -/
import Derived.Test.YtljggmgijadjaaaEdge
namespace Go.Proofs.Ytljggmgijadjaaa
open Go.RowKit Go.ChangeShapes Go.WideShapes Go.ChangeAt Go.Deep
set_option linter.unusedVariables false

def szI (l : Int) (n : Nat) : Int := if l - n < 0 then -1 else l - n
def szG (l : Int) (n m : Nat) : Int := if l - n < 0 then -1 else szI (l - n) m
theorem szG_ok {l : Int} {n m : Nat} (h : ¬ szG l n m < 0) : n + m ≤ l ∧ szG l n m = l - n - m ∧ 0 ≤ szG l n m ∧ szG l n m ≤ l := by
  unfold szG szI at *
  split at h
  · omega
  · split at h
    · omega
    · rw [if_neg (by assumption), if_neg (by assumption)]
      omega
theorem GOwn.reads {w : World} {base b1 b2 n m c d : Nat} {g : G} (h : GOwn w base (.slice (some ⟨b1, 0, none⟩) n c) (.slice (some ⟨b2, 0, none⟩) m d) g) (ln : g.vs.length = n) (lm : g.es.length = m) : GReads w (some ⟨b1, 0, none⟩) n (some ⟨b2, 0, none⟩) m g := by
  obtain ⟨h1, h2⟩ := h
  rw [ln] at h1
  rw [lm] at h2
  exact ⟨ln, lm, Reads.of_own h1, Reads.of_own h2⟩
theorem GReads.drew {w : World} {A B : Option Addr} {n m : Nat} {g : G} (h : GReads w A n B m g) : GReads w.drew A n B m g := ⟨h.ln, h.lm, h.rv, h.re⟩
/-- What the walk is told of a graph that came in. -/
def ArgGraph (w : World) (v : Value) : Prop :=
  ∃ (A B : Option Addr) (n c m d : Nat) (g : G), v = .agg #[.slice A n c, .slice B m d] ∧ GReads w A n B m g ∧ n ≤ 9223372036854775807 ∧ m ≤ 9223372036854775807 ∧ (∀ x ∈ g.vs, (Lit.int .i64 x).wf = true) ∧
    (∀ e ∈ g.es, (Lit.int .i64 e.id).wf = true ∧ (Lit.int .i64 e.fr).wf = true ∧ (Lit.int .i64 e.to).wf = true ∧ (Lit.int .i64 e.lb).wf = true)
end Go.Proofs.Ytljggmgijadjaaa
