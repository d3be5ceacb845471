/- Batches applied: what both packages compute; worlds in which one box alone may differ. -/
import Derived.Test.YtomkgnamjfiocaaGreatDoorBaseD
namespace Go.Proofs.YtomkgnamjfiocaaGreatDoor
open Go.RowKit Go.ChangeShapes Go.WideShapes Go.ChangeAt Go.Deep
set_option linter.unusedVariables false
def stepG (g : G) (c : Cg) : Option G := if c.ins then (if insOk g c.e then some (insG g c.e).1 else none) else (if hasB g.es c.e && delOk g c.e.id then some (delG g c.e.id).1 else none)
def runG (g : G) (l : List Cg) : Option G := l.foldlM stepG g
def apG (g : G) (l : List Cg) : G × Bool := if validG g && decide (l.length ≤ 6) then (match runG g l with | some x => (x, true) | none => (g, false)) else (g, false)
theorem runG_nil (g : G) : runG g [] = some g := rfl
theorem runG_succ {g x : G} {l : List Cg} {q : Nat} {c : Cg} (hc : l[q]? = some c) (h : runG g (l.take q) = some x) : runG g (l.take (q + 1)) = stepG x c := by
  obtain ⟨hq, rfl⟩ := List.getElem?_eq_some_iff.1 hc
  rw [List.take_succ_eq_append_getElem hq, runG, List.foldlM_append]
  have : List.foldlM stepG g (l.take q) = some x := h
  rw [this]
  simp
theorem runG_none {g x : G} {l : List Cg} {q : Nat} {c : Cg} (hc : l[q]? = some c) (h : runG g (l.take q) = some x) (hn : stepG x c = none) : runG g l = none := by
  have h1 := runG_succ hc h
  rw [hn] at h1
  have h2 : runG g l = (runG g (l.take (q + 1))).bind fun y => runG y (l.drop (q + 1)) := by
    have := List.foldlM_append (m := Option) (f := stepG) (b := g) (l := l.take (q + 1)) (l' := l.drop (q + 1))
    rw [List.take_append_drop] at this
    exact this
  rw [h2, h1]
  rfl
theorem apG_bad {g : G} {l : List Cg} (h : (validG g && decide (l.length ≤ 6)) = false) : apG g l = (g, false) := by simp [apG, h]
theorem apG_none {g : G} {l : List Cg} (h : runG g l = none) : apG g l = (g, false) := by simp [apG, h]
theorem apG_some {g x : G} {l : List Cg} (hv : validG g = true) (hl : l.length ≤ 6) (h : runG g l = some x) : apG g l = (x, true) := by simp [apG, hv, hl, h]
section
variable {w w' : World} {xb : Nat} {p : Addr} {v : Value}
theorem GIs.off {a b g n m c d : Nat} {A B : Option Addr} {xs ys : List Value} {cs : Array Value} (h : GIs w a b A n c B m d xs ys) (Z : Blk w g 27 cs) (i : Nat) (u : Value) : GIs (w.setCell ⟨g, i, none⟩ u) a b A n c B m d xs ys :=
  ⟨h.ou.off Z (by decide) i u, h.ov.off Z (by decide) i u⟩
end
end Go.Proofs.YtomkgnamjfiocaaGreatDoor
