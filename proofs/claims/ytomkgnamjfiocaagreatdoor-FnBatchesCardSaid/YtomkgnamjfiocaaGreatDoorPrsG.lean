/- ParseGraph of both packages. -/
import Derived.Test.YtomkgnamjfiocaaGreatDoorPrsB
import Derived.Test.YtomkgnamjfiocaaGreatDoorFmtG
namespace Go.Proofs.YtomkgnamjfiocaaGreatDoor
open Go.RowKit Go.ChangeShapes Go.WideShapes Go.ChangeAt Go.Deep
set_option linter.unusedVariables false
def prsGr (l : List UInt8) : G := (prsG l).getD ⟨[], []⟩
def prsGrB (l : List UInt8) : Bool := (prsG l).isSome
theorem prsG_if {l p : List UInt8} {r : List (List UInt8)} (h : cutL 32 l = p :: r) : prsG l = match prsEs r with
    | some es => if fmtG ⟨p.map dv, es⟩ = l ∧ l ≠ [] then some ⟨p.map dv, es⟩ else none
    | none => none := by
  unfold prsG
  rw [h]
  rfl
theorem prsG_ifS {l p : List UInt8} {r : List (List UInt8)} (h : cutL 32 l = p :: r) : prsG l = match prsEs (r.take 13) with
    | some es => if validG ⟨(p.take 6).map dv, es⟩ then some ⟨(p.take 6).map dv, es⟩ else none
    | none => none := by
  rw [← prsGS_eq]
  unfold prsGS
  rw [h]
  rfl
theorem prsEs_no {l : List (List UInt8)} {k : Nat} {p : List UInt8} (h : l[k]? = some p) (hp : prsE p = none) : prsEs l = none := by
  rw [take_cons_drop h]
  exact prsEs_bad _ _ _ hp
theorem prsEs_more {l : List (List UInt8)} {k : Nat} {p : List UInt8} {L : List E} {x : E} (h : l[k]? = some p) (hL : prsEs (l.take k) = some L) (hp : prsE p = some x) : prsEs (l.take (k + 1)) = some (L ++ [x]) := by
  rw [List.take_add_one, h]
  simp only [Option.toList_some]
  rw [prsEs_snoc _ L p hL, hp]
  rfl
theorem dv_wrap (c : UInt8) : IntKind.i64.wrap ((c.toNat : Int) - 48) = dv c := by
  have := c.toNat_lt
  unfold dv
  exact IntWalk.i64_in _ (by omega)
theorem dv_take {p : List UInt8} {k : Nat} {c : UInt8} (h : p[k]? = some c) : (p.take (k + 1)).map dv = (p.take k).map dv ++ [dv c] := by
  rw [List.take_add_one, h]
  simp
end Go.Proofs.YtomkgnamjfiocaaGreatDoor
