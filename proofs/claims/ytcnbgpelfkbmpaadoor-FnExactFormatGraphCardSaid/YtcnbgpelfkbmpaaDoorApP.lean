/- Batches applied: what both packages compute; worlds in which one box alone may differ. -/
import Derived.Test.YtcnbgpelfkbmpaaDoorIns3
namespace Go.Proofs.YtcnbgpelfkbmpaaDoor
open Go.RowKit Go.ChangeShapes Go.WideShapes Go.ChangeAt Go.Deep
set_option linter.unusedVariables false
def stepG (g : G) (c : Cg) : Option G := if c.ins then (if insOk g c.e then some (insG g c.e).1 else none) else (if hasB g.es c.e && delOk g c.e.id then some (delG g c.e.id).1 else none)
def runG (g : G) (l : List Cg) : Option G := l.foldlM stepG g
def apG (g : G) (l : List Cg) : G × Bool := if validG g && decide (l.length ≤ 6) then (match runG g l with | some x => (x, true) | none => (g, false)) else (g, false)
theorem runG_nil (g : G) : runG g [] = some g := rfl
theorem runG_succ {g x : G} {l : List Cg} {q : Nat} {c : Cg} (hc : l[q]? = some c) (h : runG g (l.take q) = some x) : runG g (l.take (q + 1)) = stepG x c := by
  obtain ⟨hq, rfl⟩ := List.getElem?_eq_some_iff.1 hc
  rw [List.take_succ_eq_append_getElem hq, runG, List.foldlM_append]
  have : List.foldlM stepG g (l.take q) = some x := h
  rw [this]
  simp
theorem runG_none {g x : G} {l : List Cg} {q : Nat} {c : Cg} (hc : l[q]? = some c) (h : runG g (l.take q) = some x) (hn : stepG x c = none) : runG g l = none := by
  have h1 := runG_succ hc h
  rw [hn] at h1
  have h2 : runG g l = (runG g (l.take (q + 1))).bind fun y => runG y (l.drop (q + 1)) := by
    have := List.foldlM_append (m := Option) (f := stepG) (b := g) (l := l.take (q + 1)) (l' := l.drop (q + 1))
    rw [List.take_append_drop] at this
    exact this
  rw [h2, h1]
  rfl
theorem apG_bad {g : G} {l : List Cg} (h : (validG g && decide (l.length ≤ 6)) = false) : apG g l = (g, false) := by simp [apG, h]
theorem apG_none {g : G} {l : List Cg} (h : runG g l = none) : apG g l = (g, false) := by simp [apG, h]
theorem apG_some {g x : G} {l : List Cg} (hv : validG g = true) (hl : l.length ≤ 6) (h : runG g l = some x) : apG g l = (x, true) := by simp [apG, hv, hl, h]
/-- A world in which, of what w held, the box xb alone may differ. -/
structure KeptB (w : World) (xb : Nat) where
  W : World
  be : Tch xb (xb + 1) w W
section
variable {w w' : World} {xb : Nat} {p : Addr} {v : Value}
theorem KeptB.cell (h : w.cell? p = some v) (hne : p.block ≠ xb) (x : KeptB w xb) : x.W.cell? p = some v := cell_tch x.be h (by omega)
theorem KeptB.frz (h : w.cell? p = some v) (hf : w.frozen? p = false) (hne : p.block ≠ xb) (x : KeptB w xb) : x.W.frozen? p = false := x.be.frz h hf (by omega)
theorem KeptB.of (x : KeptB w xb) (h : Below x.W.heap.size x.W w') : ∃ y : KeptB w xb, w' = y.W := ⟨⟨w', x.be.below h⟩, rfl⟩
theorem KeptB.fst (h : Tch xb (xb + 1) w w') : ∃ y : KeptB w xb, w' = y.W := ⟨⟨w', h⟩, rfl⟩
theorem KeptB.set (x : KeptB w xb) (h : xb < w.heap.size) (i : Nat) (u : Value) : ∃ y : KeptB w xb, x.W.setCell ⟨xb, i, none⟩ u = y.W := ⟨⟨_, x.be.setCell (p := ⟨xb, i, none⟩) (Nat.le_refl _) (Nat.lt_succ_self _) u⟩, rfl⟩
theorem KeptB.up {w0 : World} (x : KeptB w xb) (h : Below w0.heap.size w0 w) (hx : w0.heap.size ≤ xb) : Below w0.heap.size w0 x.W := below_tch h x.be hx
theorem KeptB.blk {g : Nat} {t : TypeId} {cs : Array Value} (h : Blk w g t cs) (hne : g ≠ xb) (x : KeptB w xb) : Blk x.W g t cs := h.tch x.be (by omega)
theorem Blk.bc {g : Nat} {t : TypeId} {cs : Array Value} (h : Blk w g t cs) (hne : g ≠ xb) (i : Nat) {v : Value} (hv : cs[i]? = some v) (x : KeptB w xb) : x.W.cell? ⟨g, i, none⟩ = some v := by
  rw [(x.blk h hne).cell, hv]
theorem Blk.bf {g : Nat} {t : TypeId} {cs : Array Value} (h : Blk w g t cs) (hne : g ≠ xb) (i : Nat) (x : KeptB w xb) : x.W.frozen? ⟨g, i, none⟩ = false := (x.blk h hne).frozen i
theorem wp_region_kb {P : Program} {id : Nat} {Q : Exit → Act → World → Prop} {a : Act} {w : World} {xb : Nat} {y : KeptB w xb} {l : List Oper} (hm : P.follows .mixedOrders = true) (hB : Region.lexB .any l.toArray = true)
    (h : wpQuiet P l.toArray (fun w' => ∃ x : Kept y.W, w' = x.W) (fun a' => ∀ w', (∃ x : Kept y.W, w' = x.W) → Q .normal a' w') l a) : (Code.region id l.toArray true).wp P Q a y.W :=
  wp_region_quiet (C := fun w' => ∃ x : Kept y.W, w' = x.W) hm hB ⟨⟨y.W.drew, (Below.refl _ _).drew⟩, rfl⟩ (by simpa using h)
theorem GIs.off {a b g n m c d : Nat} {A B : Option Addr} {xs ys : List Value} {cs : Array Value} (h : GIs w a b A n c B m d xs ys) (Z : Blk w g 56 cs) (i : Nat) (u : Value) : GIs (w.setCell ⟨g, i, none⟩ u) a b A n c B m d xs ys :=
  ⟨h.ou.off Z (by decide) i u, h.ov.off Z (by decide) i u⟩
end
end Go.Proofs.YtcnbgpelfkbmpaaDoor
