/- The ways through a drawn region that boxes a struct result meet again: what each leaves. -/
import Derived.Test.YtljggmgijadjaaaGreatDoorInvB
import Derived.Deep.DeepCutAuto
namespace Go.Proofs.YtljggmgijadjaaaGreatDoor
open Go.RowKit Go.ChangeShapes Go.WideShapes Go.ChangeAt Go.Deep
set_option linter.unusedVariables false
theorem cell_sf {w : World} {p q : Addr} {u v : Value} (h : w.cell? p = some v) (hp : q.block ≠ p.block) : (w.setCell q u).cell? p = some v := by
  rw [World.cell?_setCell_other _ _ _ _ (fun e => hp (by rw [e]))]
  exact h
theorem Blk.c10 {w : World} {g : Nat} {t : TypeId} {a : Value} (h : Blk w g t #[a]) : w.cell? ⟨g, 0, none⟩ = some a := by rw [h.cell]; rfl
theorem Blk.c20 {w : World} {g : Nat} {t : TypeId} {a b : Value} (h : Blk w g t #[a, b]) : w.cell? ⟨g, 0, none⟩ = some a := by rw [h.cell]; rfl
theorem Blk.c21 {w : World} {g : Nat} {t : TypeId} {a b : Value} (h : Blk w g t #[a, b]) : w.cell? ⟨g, 1, none⟩ = some b := by rw [h.cell]; rfl
theorem lt_al (w : World) (o : Obj) : w.heap.size < (w.alloc o).heap.size := by simp
theorem lt_ald (w : World) (o : Obj) : w.heap.size < (w.alloc o).drew.heap.size := by show _ < (w.alloc o).heap.size; simp
theorem cut_res {w X w' N : World} {e : TypeId} {size n c : Nat} {A : Option Addr} {xs : List Value} (hN : Below N.heap.size N w) (hX : Below w.heap.size w X) (O : RIs w' X.heap.size w'.heap.size e size A n c xs) : RIs w' N.heap.size w'.heap.size e size A n c xs :=
  O.wide (Nat.le_trans hN.size hX.size) (Nat.le_refl _)
theorem cut_resG {w X w' N : World} {n c m d : Nat} {A B : Option Addr} {xs ys : List Value} (hN : Below N.heap.size N w) (hX : Below w.heap.size w X) (O : GIs w' X.heap.size w'.heap.size A n c B m d xs ys) : GIs w' N.heap.size w'.heap.size A n c B m d xs ys :=
  O.wide (Nat.le_trans hN.size hX.size) (Nat.le_refl _)
theorem RIs.off {w : World} {a b g : Nat} {e t : TypeId} {size n c : Nat} {A : Option Addr} {xs : List Value} {cs : Array Value} (h : RIs w a b e size A n c xs) (Z : Blk w g t cs) (hne : e ≠ t) (i : Nat) (u : Value) : RIs (w.setCell ⟨g, i, none⟩ u) a b e size A n c xs :=
  h.far (p := ⟨g, i, none⟩) (fun q hq hqe => own_blk_ne h.own.row Z hne (by rw [hq, hqe])) u
/-- A walk that a call gave, boxed, and a truth beside it. -/
def CutWk (W : World) (r : Wk) (ok : Bool) (p b : Value) (wx : World) : Prop :=
  ∃ (xb : Nat) (A : Option Addr) (n c : Nat), p = .pointer (some ⟨xb, 0, none⟩) ∧ b = .bool ok ∧ wx.cell? ⟨xb, 0, none⟩ = some (.int .i64 r.st) ∧ wx.cell? ⟨xb, 1, none⟩ = some (.slice A n c) ∧
    RIs wx W.heap.size wx.heap.size 106 2 A n c (stcs r.steps) ∧ Below W.heap.size W wx ∧ W.heap.size ≤ xb ∧ xb < wx.heap.size
theorem CutWk.late {W w : World} {r : Wk} {ok : Bool} {A : Option Addr} {n c : Nat} (hN : Below W.heap.size W w) (O : RIs w W.heap.size w.heap.size 106 2 A n c (stcs r.steps)) :
    CutWk W r ok (.pointer (some ⟨w.heap.size, 0, none⟩)) (.bool ok) (w.alloc (.cells #[.int .i64 r.st, .slice A n c] 50)) := by
  have Z := Blk.new w 50 #[.int .i64 r.st, .slice A n c]
  have hb : Below w.heap.size w (w.alloc (.cells #[.int .i64 r.st, .slice A n c] 50)) := (Below.refl _ _).alloc (Nat.le_refl _) _
  exact ⟨_, _, _, _, rfl, rfl, by rw [Z.cell]; rfl, by rw [Z.cell]; rfl, (O.below hb).wide (Nat.le_refl _) hb.size, below_then hN hb, hN.size, by simp⟩
theorem CutWk.early {W w : World} {r : Wk} {ok : Bool} {A : Option Addr} {n c g : Nat} {a b : Value} (hN : Below W.heap.size W w) (O : RIs w W.heap.size w.heap.size 106 2 A n c (stcs r.steps)) (Z : Blk w g 50 #[a, b]) (hg : W.heap.size ≤ g) :
    CutWk W r ok (.pointer (some ⟨g, 0, none⟩)) (.bool ok) ((w.setCell ⟨g, 0, none⟩ (.int .i64 r.st)).setCell ⟨g, 1, none⟩ (.slice A n c)) := by
  have Z2 := (Z.set_ 0 (.int .i64 r.st)).set_ 1 (.slice A n c)
  have hl := Z.lt
  exact ⟨_, _, _, _, rfl, rfl, by rw [Z2.cell]; rfl, by rw [Z2.cell]; rfl, by simpa using (O.off Z (by decide) 0 _).off (Z.set_ 0 _) (by decide) 1 _, (hN.setCell (p := ⟨g, 0, none⟩) hg _).setCell (p := ⟨g, 1, none⟩) hg _, hg, by simpa using hl⟩
/-- A batch that a call gave, boxed. -/
def CutBt (W : World) (l : List Cg) (ok : Bool) (p b : Value) (wx : World) : Prop :=
  ∃ (xb : Nat) (A : Option Addr) (n c : Nat), p = .pointer (some ⟨xb, 0, none⟩) ∧ b = .bool ok ∧ wx.cell? ⟨xb, 0, none⟩ = some (.slice A n c) ∧
    RIs wx W.heap.size wx.heap.size 119 5 A n c (cgcs l) ∧ Below W.heap.size W wx ∧ W.heap.size ≤ xb ∧ xb < wx.heap.size
theorem CutBt.late {W w : World} {l : List Cg} {ok : Bool} {A : Option Addr} {n c : Nat} (hN : Below W.heap.size W w) (O : RIs w W.heap.size w.heap.size 119 5 A n c (cgcs l)) :
    CutBt W l ok (.pointer (some ⟨w.heap.size, 0, none⟩)) (.bool ok) (w.alloc (.cells #[.slice A n c] 67)) := by
  have Z := Blk.new w 67 #[.slice A n c]
  have hb : Below w.heap.size w (w.alloc (.cells #[.slice A n c] 67)) := (Below.refl _ _).alloc (Nat.le_refl _) _
  exact ⟨_, _, _, _, rfl, rfl, by rw [Z.cell]; rfl, (O.below hb).wide (Nat.le_refl _) hb.size, below_then hN hb, hN.size, by simp⟩
theorem CutBt.early {W w : World} {l : List Cg} {ok : Bool} {A : Option Addr} {n c g : Nat} {a : Value} (hN : Below W.heap.size W w) (O : RIs w W.heap.size w.heap.size 119 5 A n c (cgcs l)) (Z : Blk w g 67 #[a]) (hg : W.heap.size ≤ g) :
    CutBt W l ok (.pointer (some ⟨g, 0, none⟩)) (.bool ok) (w.setCell ⟨g, 0, none⟩ (.slice A n c)) := by
  have Z2 := Z.set_ 0 (.slice A n c)
  have hl := Z.lt
  exact ⟨_, _, _, _, rfl, rfl, by rw [Z2.cell]; rfl, by simpa using O.off Z (by decide) 0 _, hN.setCell (p := ⟨g, 0, none⟩) hg _, hg, by simpa using hl⟩
/-- A graph that a call gave, boxed. -/
def CutGr (W : World) (r : G) (ok : Bool) (p b : Value) (wx : World) : Prop :=
  ∃ (xb : Nat) (A : Option Addr) (n c : Nat) (B : Option Addr) (m d : Nat), p = .pointer (some ⟨xb, 0, none⟩) ∧ b = .bool ok ∧ wx.cell? ⟨xb, 0, none⟩ = some (.slice A n c) ∧ wx.cell? ⟨xb, 1, none⟩ = some (.slice B m d) ∧
    GIs wx W.heap.size wx.heap.size A n c B m d (r.vs.map iv) (ecs r.es) ∧ Below W.heap.size W wx ∧ W.heap.size ≤ xb ∧ xb < wx.heap.size
theorem CutGr.late {W w : World} {r : G} {ok : Bool} {A B : Option Addr} {n c m d : Nat} (hN : Below W.heap.size W w) (O : GIs w W.heap.size w.heap.size A n c B m d (r.vs.map iv) (ecs r.es)) :
    CutGr W r ok (.pointer (some ⟨w.heap.size, 0, none⟩)) (.bool ok) (w.alloc (.cells #[.slice A n c, .slice B m d] 27)) := by
  have Z := Blk.new w 27 #[.slice A n c, .slice B m d]
  have hb : Below w.heap.size w (w.alloc (.cells #[.slice A n c, .slice B m d] 27)) := (Below.refl _ _).alloc (Nat.le_refl _) _
  exact ⟨_, _, _, _, _, _, _, rfl, rfl, by rw [Z.cell]; rfl, by rw [Z.cell]; rfl, (O.below hb).wide (Nat.le_refl _) hb.size, below_then hN hb, hN.size, by simp⟩
theorem CutGr.early {W w : World} {r : G} {ok : Bool} {A B : Option Addr} {n c m d g : Nat} {a b : Value} (hN : Below W.heap.size W w) (O : GIs w W.heap.size w.heap.size A n c B m d (r.vs.map iv) (ecs r.es)) (Z : Blk w g 27 #[a, b]) (hg : W.heap.size ≤ g) :
    CutGr W r ok (.pointer (some ⟨g, 0, none⟩)) (.bool ok) ((w.setCell ⟨g, 0, none⟩ (.slice A n c)).setCell ⟨g, 1, none⟩ (.slice B m d)) := by
  have Z2 := (Z.set_ 0 (.slice A n c)).set_ 1 (.slice B m d)
  have hl := Z.lt
  exact ⟨_, _, _, _, _, _, _, rfl, rfl, by rw [Z2.cell]; rfl, by rw [Z2.cell]; rfl, ⟨by simpa using (O.ou.off Z (by decide) 0 _).off (Z.set_ 0 _) (by decide) 1 _, by simpa using (O.ov.off Z (by decide) 0 _).off (Z.set_ 0 _) (by decide) 1 _⟩, (hN.setCell (p := ⟨g, 0, none⟩) hg _).setCell (p := ⟨g, 1, none⟩) hg _, hg, by simpa using hl⟩
end Go.Proofs.YtljggmgijadjaaaGreatDoor
