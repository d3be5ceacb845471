/- Arguments opened: walks, batches, steps, edges; their sizes. -/
import Derived.Test.YtljggmgijadjaaaIs
namespace Go.Proofs.Ytljggmgijadjaaa
open Go.RowKit Go.ChangeShapes Go.WideShapes Go.ChangeAt Go.Deep
set_option linter.unusedVariables false
def ArgWalk (W : World) (v : Value) : Prop :=
  ∃ (A : Option Addr) (n c : Nat) (s : Int) (l : List St), v = .agg #[.int .i64 s, .slice A n c] ∧ l.length = n ∧ Reads W W.heap.size 2 A n (stcs l) ∧ n ≤ 9223372036854775807 ∧ (Lit.int .i64 s).wf = true ∧ ∀ x ∈ l, (Lit.int .i64 x.ed).wf = true
def ArgBatch (W : World) (v : Value) : Prop :=
  ∃ (A : Option Addr) (n c : Nat) (l : List Cg), v = .agg #[.slice A n c] ∧ l.length = n ∧ Reads W W.heap.size 5 A n (cgcs l) ∧ n ≤ 9223372036854775807 ∧ ∀ x ∈ l, wfE x.e
def ArgStep (W : World) (v : Value) : Prop := ∃ s : St, v = .agg #[.int .i64 s.ed, .bool s.inv] ∧ (Lit.int .i64 s.ed).wf = true
def ArgEdge (W : World) (v : Value) : Prop := ∃ e : E, v = .agg #[.int .i64 e.id, .int .i64 e.fr, .int .i64 e.to, .int .i64 e.lb] ∧ wfE e
section
variable {H : Type} {enc : TypeId × Value → H} {W : World} {base : Nat} {spare : Nat → Bool} {held : Bool}
theorem ci_bool : Try.prog.cellsOf 4 = 1 := by kernel_rfl
end
theorem szI_ok {l : Int} {n : Nat} (h : ¬ szI l n < 0) : n ≤ l ∧ 0 ≤ szI l n ∧ szI l n ≤ l := by
  unfold szI at *
  split at h
  · omega
  · rw [if_neg (by assumption)]
    omega
theorem szG_ok3 {l : Int} {n m : Nat} (h : ¬ szG l n m < 0) : n + m ≤ l ∧ 0 ≤ szG l n m ∧ szG l n m ≤ l := by
  obtain ⟨h1, _, h2, h3⟩ := szG_ok h
  exact ⟨h1, h2, h3⟩
theorem szI_neg (l : Int) (n : Nat) : szI l n < 0 → szI l n = -1 := by unfold szI; split <;> omega
end Go.Proofs.Ytljggmgijadjaaa
