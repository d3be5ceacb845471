/- Worlds that only grew, and worlds in which one box alone may differ: what is known at the start stays known. -/
import Derived.Test.YtljggmgijadjaaaRd
import Derived.Test.YtljggmgijadjaaaCp
namespace Go.Proofs.Ytljggmgijadjaaa
open Go.RowKit Go.ChangeShapes Go.WideShapes Go.ChangeAt Go.Deep
set_option linter.unusedVariables false
theorem Tch.below {lo hi : Nat} {w w' w'' : World} (t : Tch lo hi w w') (h : Below w'.heap.size w' w'') : Tch lo hi w w'' := t.trans (Tch.of_below h)
theorem Tch.drew {lo hi : Nat} {w w' : World} (h : Tch lo hi w w') : Tch lo hi w w'.drew := ⟨h.os, h.tape, h.output, h.size, h.block⟩
theorem Tch.alloc {lo hi : Nat} {w w' : World} (h : Tch lo hi w w') (o : Obj) : Tch lo hi w (w'.alloc o) := h.trans (Tch.of_below ((Below.refl _ _).alloc (Nat.le_refl _) _))
theorem Tch.setCell {lo hi : Nat} {w w' : World} (h : Tch lo hi w w') {p : Addr} (h1 : lo ≤ p.block) (h2 : p.block < hi) (u : Value) : Tch lo hi w (w'.setCell p u) :=
  ⟨h.os, h.tape, h.output, by rw [World.size_setCell]; exact h.size, fun k hk hd => (Below.heap_setCell w' p u k (by omega)).trans (h.block k hk hd)⟩
theorem Tch.refl (lo hi : Nat) (w : World) : Tch lo hi w w := ⟨rfl, rfl, rfl, Nat.le_refl _, fun _ _ _ => rfl⟩
theorem Tch.frz {lo hi : Nat} {w w' : World} (t : Tch lo hi w w') {p : Addr} {u : Value} (h : w.cell? p = some u) (hf : w.frozen? p = false) (hd : p.block < lo ∨ hi ≤ p.block) : w'.frozen? p = false := by
  have hlt := World.block_lt_of_cell? w p h
  have hb := t.block p.block hlt hd
  rw [← hf]
  unfold World.frozen?
  rw [hb]
theorem Tch.grown {lo hi base : Nat} {w w4 w5 : World} {e : TypeId} {size n : Nat} {v : Value} {xs : List Value} (t : Tch lo hi w w4) (hown : w4.ownsRow base e size v n xs) (hb : w.heap.size ≤ base) (hg : w4.grownBy w5 v.ownBlock) : Tch lo hi w w5 :=
  ⟨hg.os.trans t.os, hg.tape.trans t.tape, hg.output.trans t.output, Nat.le_trans t.size hg.size, fun k hk hd =>
    (hg.block k (Nat.lt_of_lt_of_le hk t.size) (fun hh => by have := (ownBlock_some hown hh.symm).1; omega)).trans (t.block k hk hd)⟩
theorem Tch.grown2 {lo hi : Nat} {w w4 w5 : World} {row : Option Nat} (t : Tch lo hi w w4) (hg : w4.grownBy w5 row) (hr : ∀ g, row = some g → (lo ≤ g ∧ g < hi) ∨ w.heap.size ≤ g) : Tch lo hi w w5 :=
  ⟨hg.os.trans t.os, hg.tape.trans t.tape, hg.output.trans t.output, Nat.le_trans t.size hg.size, fun k hk hd =>
    (hg.block k (Nat.lt_of_lt_of_le hk t.size) (fun hh => by have := hr k hh.symm; omega)).trans (t.block k hk hd)⟩
theorem Kept.frz {w : World} {p : Addr} {v : Value} (h : w.cell? p = some v) (hf : w.frozen? p = false) (x : Kept w) : x.W.frozen? p = false := frozen_keep x.be h hf
theorem Kept.of {w w' : World} (x : Kept w) (h : Below x.W.heap.size x.W w') : ∃ y : Kept w, w' = y.W := ⟨⟨w', below_then x.be h⟩, rfl⟩
theorem Kept.fst {w w' : World} (h : Below w.heap.size w w') : ∃ y : Kept w, w' = y.W := ⟨⟨w', h⟩, rfl⟩
theorem Kept.size {w : World} {k : Nat} (h : k < w.heap.size) (x : Kept w) : k < x.W.heap.size := Nat.lt_of_lt_of_le h x.be.size
theorem Blk.kc {w : World} {g : Nat} {t : TypeId} {cs : Array Value} (h : Blk w g t cs) (i : Nat) {v : Value} (hv : cs[i]? = some v) (x : Kept w) : x.W.cell? ⟨g, i, none⟩ = some v := by
  rw [(h.below x.be h.lt).cell, hv]
theorem Blk.kf {w : World} {g : Nat} {t : TypeId} {cs : Array Value} (h : Blk w g t cs) (i : Nat) (x : Kept w) : x.W.frozen? ⟨g, i, none⟩ = false := (h.below x.be h.lt).frozen i
theorem wp_region_k2 {P : Program} {id : Nat} {Q : Exit → Act → World → Prop} {a : Act} {w : World} {y : Kept w} {l : List Oper} (hm : P.follows .mixedOrders = true) (hB : Region.lexB .any l.toArray = true)
    (h : wpQuiet P l.toArray (fun w' => ∃ x : Kept w, w' = x.W) (fun a' => ∀ w', (∃ x : Kept w, w' = x.W) → Q .normal a' w') l a) : (Code.region id l.toArray true).wp P Q a y.W :=
  wp_region_quiet (C := fun w' => ∃ x : Kept w, w' = x.W) hm hB ⟨⟨y.W.drew, below_then y.be (Below.refl _ _).drew⟩, rfl⟩ (by simpa using h)
theorem Blk.tch {w w' : World} {lo hi g : Nat} {t : TypeId} {cs : Array Value} (h : Blk w g t cs) (k : Tch lo hi w w') (hd : g < lo ∨ hi ≤ g) : Blk w' g t cs := (k.block g h.lt hd).trans h
theorem RIs.grown {w w' : World} {a b : Nat} {e : TypeId} {size n c : Nat} {A : Option Addr} {xs : List Value} {row : Option Nat} (h : RIs w a b e size A n c xs) (hg : w.grownBy w' row) (hne : ∀ q, (Value.slice A n c).ownBlock = some q → row ≠ some q) : RIs w' a b e size A n c xs :=
  ⟨⟨own_same h.own.row fun q hq => hg.block q (ownBlock_some h.own.row hq).2 fun e => hne q hq e.symm, h.own.top⟩, h.bd⟩
/-- A world in which, of what w held, the box xb alone may differ. -/
structure KeptB (w : World) (xb : Nat) where
  W : World
  be : Tch xb (xb + 1) w W
section
variable {w w' : World} {xb : Nat} {p : Addr} {v : Value}
theorem KeptB.cell (h : w.cell? p = some v) (hne : p.block ≠ xb) (x : KeptB w xb) : x.W.cell? p = some v := cell_tch x.be h (by omega)
theorem KeptB.frz (h : w.cell? p = some v) (hf : w.frozen? p = false) (hne : p.block ≠ xb) (x : KeptB w xb) : x.W.frozen? p = false := x.be.frz h hf (by omega)
theorem KeptB.of (x : KeptB w xb) (h : Below x.W.heap.size x.W w') : ∃ y : KeptB w xb, w' = y.W := ⟨⟨w', x.be.below h⟩, rfl⟩
theorem KeptB.fst (h : Tch xb (xb + 1) w w') : ∃ y : KeptB w xb, w' = y.W := ⟨⟨w', h⟩, rfl⟩
theorem KeptB.set (x : KeptB w xb) (h : xb < w.heap.size) (i : Nat) (u : Value) : ∃ y : KeptB w xb, x.W.setCell ⟨xb, i, none⟩ u = y.W := ⟨⟨_, x.be.setCell (p := ⟨xb, i, none⟩) (Nat.le_refl _) (Nat.lt_succ_self _) u⟩, rfl⟩
theorem KeptB.up {w0 : World} (x : KeptB w xb) (h : Below w0.heap.size w0 w) (hx : w0.heap.size ≤ xb) : Below w0.heap.size w0 x.W := below_tch h x.be hx
theorem KeptB.blk {g : Nat} {t : TypeId} {cs : Array Value} (h : Blk w g t cs) (hne : g ≠ xb) (x : KeptB w xb) : Blk x.W g t cs := h.tch x.be (by omega)
theorem Blk.bc {g : Nat} {t : TypeId} {cs : Array Value} (h : Blk w g t cs) (hne : g ≠ xb) (i : Nat) {v : Value} (hv : cs[i]? = some v) (x : KeptB w xb) : x.W.cell? ⟨g, i, none⟩ = some v := by
  rw [(x.blk h hne).cell, hv]
theorem Blk.bf {g : Nat} {t : TypeId} {cs : Array Value} (h : Blk w g t cs) (hne : g ≠ xb) (i : Nat) (x : KeptB w xb) : x.W.frozen? ⟨g, i, none⟩ = false := (x.blk h hne).frozen i
theorem wp_region_kb {P : Program} {id : Nat} {Q : Exit → Act → World → Prop} {a : Act} {w : World} {xb : Nat} {y : KeptB w xb} {l : List Oper} (hm : P.follows .mixedOrders = true) (hB : Region.lexB .any l.toArray = true)
    (h : wpQuiet P l.toArray (fun w' => ∃ x : Kept y.W, w' = x.W) (fun a' => ∀ w', (∃ x : Kept y.W, w' = x.W) → Q .normal a' w') l a) : (Code.region id l.toArray true).wp P Q a y.W :=
  wp_region_quiet (C := fun w' => ∃ x : Kept y.W, w' = x.W) hm hB ⟨⟨y.W.drew, (Below.refl _ _).drew⟩, rfl⟩ (by simpa using h)
end
end Go.Proofs.Ytljggmgijadjaaa
