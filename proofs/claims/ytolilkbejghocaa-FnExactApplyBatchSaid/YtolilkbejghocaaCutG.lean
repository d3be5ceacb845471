/- A drawn region that boxes a graph: what each way leaves, the graph's blocks apart from the box. -/
import Derived.Test.YtolilkbejghocaaCutR
namespace Go.Proofs.Ytolilkbejghocaa
open Go.RowKit Go.ChangeShapes Go.WideShapes Go.ChangeAt Go.Deep
set_option linter.unusedVariables false
def CutGs (W : World) (r : G) (ok : Bool) (p b : Value) (wx : World) : Prop :=
  ∃ (xb : Nat) (A : Option Addr) (n c : Nat) (B : Option Addr) (m d lo hi : Nat), p = .pointer (some ⟨xb, 0, none⟩) ∧ b = .bool ok ∧ wx.cell? ⟨xb, 0, none⟩ = some (.slice A n c) ∧ wx.cell? ⟨xb, 1, none⟩ = some (.slice B m d) ∧
    GIs wx lo hi A n c B m d (r.vs.map iv) (ecs r.es) ∧ Below W.heap.size W wx ∧ W.heap.size ≤ xb ∧ xb < wx.heap.size ∧ W.heap.size ≤ lo ∧ lo ≤ hi ∧ hi ≤ wx.heap.size ∧ (xb < lo ∨ hi ≤ xb)
theorem CutGs.late {W w : World} {r : G} {ok : Bool} {A B : Option Addr} {n c m d lo : Nat} (hN : Below W.heap.size W w) (h1 : W.heap.size ≤ lo) (h2 : lo ≤ w.heap.size) (O : GIs w lo w.heap.size A n c B m d (r.vs.map iv) (ecs r.es)) :
    CutGs W r ok (.pointer (some ⟨w.heap.size, 0, none⟩)) (.bool ok) (w.alloc (.cells #[.slice A n c, .slice B m d] 53)) := by
  have Z := Blk.new w 53 #[.slice A n c, .slice B m d]
  have hb : Below w.heap.size w (w.alloc (.cells #[.slice A n c, .slice B m d] 53)) := (Below.refl _ _).alloc (Nat.le_refl _) _
  exact ⟨_, _, _, _, _, _, _, _, _, rfl, rfl, by rw [Z.cell]; rfl, by rw [Z.cell]; rfl, O.below hb, below_then hN hb, hN.size, by simp, h1, h2, hb.size, .inr (Nat.le_refl _)⟩
theorem CutGs.early {W w : World} {r : G} {ok : Bool} {A B : Option Addr} {n c m d g lo : Nat} {a b : Value} (hN : Below W.heap.size W w) (h1 : W.heap.size ≤ lo) (h2 : lo ≤ w.heap.size) (O : GIs w lo w.heap.size A n c B m d (r.vs.map iv) (ecs r.es)) (Z : Blk w g 53 #[a, b]) (hg : W.heap.size ≤ g) (hl2 : g < lo) :
    CutGs W r ok (.pointer (some ⟨g, 0, none⟩)) (.bool ok) ((w.setCell ⟨g, 0, none⟩ (.slice A n c)).setCell ⟨g, 1, none⟩ (.slice B m d)) := by
  have Z2 := (Z.set_ 0 (.slice A n c)).set_ 1 (.slice B m d)
  have hl := Z.lt
  exact ⟨_, _, _, _, _, _, _, _, _, rfl, rfl, by rw [Z2.cell]; rfl, by rw [Z2.cell]; rfl, ⟨(O.ou.off Z (by decide) 0 _).off (Z.set_ 0 _) (by decide) 1 _, (O.ov.off Z (by decide) 0 _).off (Z.set_ 0 _) (by decide) 1 _⟩, (hN.setCell (p := ⟨g, 0, none⟩) hg _).setCell (p := ⟨g, 1, none⟩) hg _, hg, by simpa using hl, h1, h2, by simp, .inl hl2⟩
theorem cut_lo {w X w' N : World} {hi n c m d : Nat} {A B : Option Addr} {xs ys : List Value} (hN : Below N.heap.size N w) (hX : Below w.heap.size w X) (O : GIs w' X.heap.size hi A n c B m d xs ys) : N.heap.size ≤ X.heap.size := Nat.le_trans hN.size hX.size
theorem cut_zl {w X w' : World} {hi n c m d g : Nat} {t : TypeId} {cs : Array Value} {A B : Option Addr} {xs ys : List Value} (Z : Blk w g t cs) (hX : Below w.heap.size w X) (O : GIs w' X.heap.size hi A n c B m d xs ys) : g < X.heap.size := Nat.lt_of_lt_of_le Z.lt hX.size
theorem cut_hi {X w' : World} {n c m d : Nat} {A B : Option Addr} {xs ys : List Value} (hb : Below X.heap.size X w') (O : GIs w' X.heap.size w'.heap.size A n c B m d xs ys) : X.heap.size ≤ w'.heap.size := hb.size
theorem cut_za {p w' : World} {o : Obj} {hi n c m d : Nat} {A B : Option Addr} {xs ys : List Value} (O : GIs w' (p.alloc o).heap.size hi A n c B m d xs ys) : p.heap.size < (p.alloc o).heap.size := lt_al _ _
theorem cut_zd {p w' : World} {o : Obj} {hi n c m d : Nat} {A B : Option Addr} {xs ys : List Value} (O : GIs w' (p.alloc o).drew.heap.size hi A n c B m d xs ys) : p.heap.size < (p.alloc o).drew.heap.size := lt_ald _ _
end Go.Proofs.Ytolilkbejghocaa
