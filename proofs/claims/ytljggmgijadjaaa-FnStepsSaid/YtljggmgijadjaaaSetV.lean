/- SetValue of both packages. -/
import Derived.Test.YtljggmgijadjaaaCp
import Derived.Test.YtljggmgijadjaaaValid2
namespace Go.Proofs.Ytljggmgijadjaaa
open Go.RowKit Go.ChangeShapes Go.WideShapes Go.ChangeAt Go.Deep
set_option linter.unusedVariables false
section
variable {w w' W : World} {A B : Option Addr} {n c m d lo hi size : Nat} {e : TypeId} {xs : List Value}
theorem implValid_rd (w : World) {g : G} (h : GRd w A n B m g) : Calls Try.prog 21 #[.agg #[.slice A n c, .slice B m d]] w fun e w' => e = .returned (.bool (validG g)) ∧ Below w.heap.size w w' := implValid_any A B n c m d g w h.gr h.bn h.bm
theorem specValid_rd (w : World) {g : G} (h : GRd w A n B m g) : Calls Try.prog 22 #[.agg #[.slice A n c, .slice B m d]] w fun e w' => e = .returned (.bool (validG g)) ∧ Below w.heap.size w w' := specValid_any A B n c m d g w h.gr h.bn h.bm
theorem RIs.at_ (h : RIs w lo hi e size A n c xs) (hn : 0 < n) : ∃ g, A = some ⟨g, 0, none⟩ ∧ lo ≤ g ∧ g < hi := by
  rcases h.own.row.2 with ⟨hv, _⟩ | ⟨g, cap, cur, hv, hb, _⟩
  · injection hv with h1 h2
    omega
  · injection hv with h1 h2
    exact ⟨g, h1, hb, h.own.top g (by rw [h1]; simp [Value.ownBlock])⟩
theorem RIs.stored {g : Nat} (h : RIs w lo hi e size (some ⟨g, 0, none⟩) n c xs) (k : Nat) (u : Value) : RIs (w.setCell ⟨g, k, none⟩ u) lo hi e size (some ⟨g, 0, none⟩) n c (xs.set k u) :=
  ⟨⟨(h.own.row.stored k u).1, h.own.top⟩, h.bd⟩
theorem RIs.cell {g : Nat} (h : RIs w lo hi e size (some ⟨g, 0, none⟩) n c xs) {k : Nat} {u : Value} (hk : xs[k]? = some u) : w.cell? ⟨g, k, none⟩ = some u := by
  have hl := h.len
  have hkl := (List.getElem?_eq_some_iff.1 hk).1
  rw [h.own.row.cellAt k (by omega)]
  exact hk
theorem RIs.frz {g : Nat} (h : RIs w lo hi e size (some ⟨g, 0, none⟩) n c xs) (k : Nat) : w.frozen? ⟨g, k, none⟩ = false := h.own.row.frozenAt k
/-- A store into another block leaves a row as it is. -/
theorem RIs.far (h : RIs w lo hi e size A n c xs) {p : Addr} (hp : ∀ g, (Value.slice A n c).ownBlock = some g → g ≠ p.block) (u : Value) : RIs (w.setCell p u) lo hi e size A n c xs :=
  ⟨⟨own_same h.own.row fun g hg => Below.heap_setCell w p u g (hp g hg), h.own.top⟩, h.bd⟩
end
/-- The result's cells written: the graph that was made lies as before. -/
theorem gis_ret {w : World} {A B : Option Addr} {n c m d a b : Nat} {xs ys : List Value} (h : GIs w a b A n c B m d xs ys) (r lo : Nat) (u v : Value) (h1 : r < a) (h2 : lo ≤ a) (h3 : b ≤ w.heap.size) :
    GIs ((w.setCell ⟨r, 0, none⟩ u).setCell ⟨r, 1, none⟩ v) lo ((w.setCell ⟨r, 0, none⟩ u).setCell ⟨r, 1, none⟩ v).heap.size A n c B m d xs ys :=
  ⟨(((h.ou.setB (p := ⟨r, 0, none⟩) h1 u).setB (p := ⟨r, 1, none⟩) h1 v).wide h2 (by simpa using h3)), (((h.ov.setB (p := ⟨r, 0, none⟩) h1 u).setB (p := ⟨r, 1, none⟩) h1 v).wide h2 (by simpa using h3))⟩
theorem below_ret {w w3 : World} (h : Below w.heap.size w w3) (r : Nat) (u v : Value) (h1 : w.heap.size ≤ r) : Below w.heap.size w ((w3.setCell ⟨r, 0, none⟩ u).setCell ⟨r, 1, none⟩ v) :=
  (h.setCell (p := ⟨r, 0, none⟩) h1 _).setCell (p := ⟨r, 1, none⟩) h1 _
theorem and3_false {a b c : Bool} (h : (a && b && c) = false) : a = false ∨ (a = true ∧ b = false) ∨ (a = true ∧ b = true ∧ c = false) := by
  revert h
  cases a <;> cases b <;> cases c <;> decide
theorem and3_true {a b c : Bool} (h : (a && b && c) = true) : a = true ∧ b = true ∧ c = true := by
  revert h
  cases a <;> cases b <;> cases c <;> decide
def setOk (g : G) (node v : Int) : Bool := validG g && inB node 0 (g.vs.length - 1) && inB v 0 2
def setG (g : G) (node v : Int) : G × Bool := if setOk g node v then (⟨g.vs.set node.toNat v, g.es⟩, true) else (g, false)
theorem setG_no {g : G} {node v : Int} (h : setOk g node v = false) : setG g node v = (g, false) := by simp [setG, h]
theorem setG_yes {g : G} {node v : Int} (h : setOk g node v = true) : setG g node v = (⟨g.vs.set node.toNat v, g.es⟩, true) := by simp [setG, h]
end Go.Proofs.Ytljggmgijadjaaa
