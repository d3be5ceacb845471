/- ParseWalk of both packages. -/
import Derived.Test.YtljggmgijadjaaaDoorPrsE
import Derived.Test.YtljggmgijadjaaaDoorFmtWk
namespace Go.Proofs.YtljggmgijadjaaaDoor
open Go.RowKit Go.ChangeShapes Go.WideShapes Go.ChangeAt Go.Deep
set_option linter.unusedVariables false
theorem TRd.cells {w : World} {A : Option Addr} {n : Nat} {L : List (List UInt8)} (h : TRd w A n L) (hn : 0 < n) : ∃ b o, A = some ⟨b, o, none⟩ ∧ b < w.heap.size ∧ ∀ j s, L[j]? = some s → w.cell? ⟨b, o + j, none⟩ = some (.string ⟨s.toArray⟩) := by
  obtain ⟨b, o, s0, hA, hb, _, _⟩ := h.at_ (k := 0) hn
  refine ⟨b, o, hA, hb, fun j s hj => ?_⟩
  have hl := h.ln
  obtain ⟨b2, o2, s2, hA2, _, hs2, hc2⟩ := h.at_ (k := j) (by have := (List.getElem?_eq_some_iff.1 hj).1; omega)
  rw [hA] at hA2
  injection hA2 with hA2
  injection hA2 with e1 e2
  subst e1
  subst e2
  rw [hj] at hs2
  injection hs2 with hs2
  subst hs2
  exact hc2
theorem TabP.tch {w w' : World} {lo hi : Nat} (h : TabP w) (t : Tch lo hi w w') (hl : 3 < lo) : TabP w' := ⟨var_same gP h.t (t.block _ h.lt (.inl hl))⟩
theorem TabE.tch {w w' : World} {lo hi : Nat} (h : TabE w) (t : Tch lo hi w w') (hl : 0 < lo) : TabE w' := by
  have hl2 := h.lt
  obtain ⟨a, b, h⟩ := h.t
  exact ⟨a, b, var_same gE h (t.block _ hl2 (.inl hl))⟩
theorem KeptB.past {w : World} {xb q i : Nat} {u : Value} (x : KeptB w xb) (hq : w.heap.size ≤ q) : ∃ y : KeptB w xb, x.W.setCell ⟨q, i, none⟩ u = y.W :=
  ⟨⟨x.W.setCell ⟨q, i, none⟩ u, ⟨x.be.os, x.be.tape, x.be.output, by rw [World.size_setCell]; exact x.be.size, fun k hk hd => (Below.heap_setCell x.W ⟨q, i, none⟩ u k (by dsimp only; omega)).trans (x.be.block k hk hd)⟩⟩, rfl⟩
theorem KeptB.grown_ {w w' : World} {xb base n size : Nat} {e : TypeId} {v : Value} {xs : List Value} (z : KeptB w xb) (hown : z.W.ownsRow base e size v n xs) (hb : w.heap.size ≤ base) (hg : z.W.grownBy w' v.ownBlock) : ∃ y : KeptB w xb, w' = y.W :=
  ⟨⟨w', z.be.grown hown hb hg⟩, rfl⟩
def prsWk (l : List UInt8) : Wk := match prsW l with
  | some p => ⟨p.1, p.2⟩
  | none => ⟨0, []⟩
def prsWkB (l : List UInt8) : Bool := (prsW l).isSome
theorem stP_eq (p : List UInt8) : stP p = ⟨prsIN (Lib.trimSuffix p [45]), Lib.hasSuffix p [45]⟩ := by
  unfold stP
  rw [trim_one, suffix_one]
  unfold dashB prsIN
  cases hd : (p.getLast? == some 45) <;> simp
theorem trim_len (p : List UInt8) : (Lib.trimSuffix p [45]).length ≤ p.length := by
  rw [trim_one]
  split <;> simp
theorem prsWS_if {l p0 : List UInt8} {R : List (List UInt8)} (h : cutL 32 l = p0 :: R) : prsW l = if l ≠ [] ∧ fmtWk (prsIN p0) ((R.take 61).map stP) = l then some (prsIN p0, (R.take 61).map stP) else none := by
  rw [← prsWS_eq]
  unfold prsWS
  rw [h]
  rfl
end Go.Proofs.YtljggmgijadjaaaDoor
