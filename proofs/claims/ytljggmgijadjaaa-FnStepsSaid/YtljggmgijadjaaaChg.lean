/- Changes: toChange, toChangeS, eqChange, eqChangeS. -/
import Derived.Test.YtljggmgijadjaaaEl
namespace Go.Proofs.Ytljggmgijadjaaa
open Go.RowKit Go.ChangeShapes Go.WideShapes Go.ChangeAt Go.Deep
set_option linter.unusedVariables false
structure Cg where
  ins : Bool
  e : E
deriving DecidableEq
def cgc (c : Cg) : List Value := [.bool c.ins, .int .i64 c.e.id, .int .i64 c.e.fr, .int .i64 c.e.to, .int .i64 c.e.lb]
def cgcs (l : List Cg) : List Value := l.flatMap cgc
theorem cgc_len (s : Cg) : (cgc s).length = 5 := rfl
theorem cgcs_len (l : List Cg) : (cgcs l).length = l.length * 5 := flatMap_len cgc 5 cgc_len l
theorem cgcs_append (a b : List Cg) : cgcs (a ++ b) = cgcs a ++ cgcs b := by simp [cgcs]
theorem cgcs_one (l : List Cg) : ∀ u ∈ cgcs l, u.oneCell' = true := by
  refine flatMap_one_cell (fun s u hu => ?_) l
  simp [cgc] at hu
  rcases hu with rfl | rfl | rfl | rfl | rfl <;> rfl
theorem change_at {w : World} {B n k : Nat} {A : Option Addr} {l : List Cg} (h : Reads w B 5 A n (cgcs l)) (hl : l.length = n) (hk : k < n) :
    ∃ b o, A = some ⟨b, o, none⟩ ∧ b < B ∧ ∃ s, l[k]? = some s ∧ w.cell? ⟨b, o + k * 5, none⟩ = some (.bool s.ins) ∧ w.cell? ⟨b, o + k * 5 + 1, none⟩ = some (.int .i64 s.e.id) ∧ w.cell? ⟨b, o + k * 5 + 2, none⟩ = some (.int .i64 s.e.fr) ∧ w.cell? ⟨b, o + k * 5 + 3, none⟩ = some (.int .i64 s.e.to) ∧ w.cell? ⟨b, o + k * 5 + 4, none⟩ = some (.int .i64 s.e.lb) := by
  obtain ⟨b, o, hA, hb, s, hs, hc⟩ := elem_at cgc_len (by decide) h hl hk
  exact ⟨b, o, hA, hb, s, hs, hc 0 _ rfl, hc 1 _ rfl, hc 2 _ rfl, hc 3 _ rfl, hc 4 _ rfl⟩
end Go.Proofs.Ytljggmgijadjaaa
