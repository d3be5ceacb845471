/- ParseBatch of both packages. -/
import Derived.Test.YtljggmgijadjaaaDoorPrsWk
import Derived.Test.YtljggmgijadjaaaDoorFmtB
namespace Go.Proofs.YtljggmgijadjaaaDoor
open Go.RowKit Go.ChangeShapes Go.WideShapes Go.ChangeAt Go.Deep
set_option linter.unusedVariables false
def prsBa (l : List UInt8) : List Cg := (prsBt l).getD []
def prsBaB (l : List UInt8) : Bool := (prsBt l).isSome
theorem prsBt_if {l : List UInt8} (h : l ≠ []) : prsBt l = match prsCs (cutL 32 l) with
  | some cs => if fmtBt cs = l then some cs else none
  | none => none := by
  unfold prsBt
  rw [if_neg h]
  cases prsCs (cutL 32 l) <;> rfl
theorem take_cons_drop {α : Type} {l : List α} {k : Nat} {p : α} (h : l[k]? = some p) : l = l.take k ++ p :: l.drop (k + 1) := by
  obtain ⟨hk, rfl⟩ := List.getElem?_eq_some_iff.1 h
  rw [← List.drop_eq_getElem_cons hk, List.take_append_drop]
theorem prsCs_no {l : List (List UInt8)} {k : Nat} {p : List UInt8} (h : l[k]? = some p) (hp : prsC p = none) : prsCs l = none := by
  rw [take_cons_drop h]
  exact prsCs_bad _ _ _ hp
theorem prsCs_more {l : List (List UInt8)} {k : Nat} {p : List UInt8} {L : List Cg} {x : Cg} (h : l[k]? = some p) (hL : prsCs (l.take k) = some L) (hp : prsC p = some x) : prsCs (l.take (k + 1)) = some (L ++ [x]) := by
  rw [List.take_add_one, h]
  simp only [Option.toList_some]
  rw [prsCs_snoc _ L p hL, hp]
  rfl
theorem TabM.tch {w w' : World} {lo hi : Nat} (h : TabM w) (t : Tch lo hi w w') (hl : 2 < lo) : TabM w' := by
  have hl2 := h.lt
  obtain ⟨m, h⟩ := h.t
  exact ⟨m, (World.cell?_of_block (t.block _ hl2 (.inl hl))).trans h⟩
theorem prsBt_ifS {l : List UInt8} (h : l ≠ []) : prsBt l = match prsCs ((cutL 32 l).take 7) with
  | some cs => if fmtBt cs = l then some cs else none
  | none => none := by
  rw [← prsBtS_eq]
  unfold prsBtS
  rw [if_neg h]
  cases prsCs ((cutL 32 l).take 7) <;> rfl
end Go.Proofs.YtljggmgijadjaaaDoor
