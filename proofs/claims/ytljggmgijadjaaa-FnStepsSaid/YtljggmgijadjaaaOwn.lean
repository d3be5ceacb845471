/- Rows of the call's own in an interval of blocks, and what a call that writes within an interval leaves. -/
import Derived.Test.YtljggmgijadjaaaMark
namespace Go.Proofs.Ytljggmgijadjaaa
open Go.RowKit Go.ChangeShapes Go.WideShapes Go.ChangeAt Go.Deep
set_option linter.unusedVariables false

/-- A row of the call's own whose block lies in [lo, hi). -/
structure OwnIn (w : World) (lo hi : Nat) (e : TypeId) (size : Nat) (v : Value) (n : Nat) (xs : List Value) : Prop where
  row : w.ownsRow lo e size v n xs
  top : ∀ g, v.ownBlock = some g → g < hi
/-- Only blocks of [lo, hi) differ; new ones may lie behind. -/
structure Tch (lo hi : Nat) (w w' : World) : Prop where
  os : w'.os = w.os
  tape : w'.tape = w.tape
  output : w'.output = w.output
  size : w.heap.size ≤ w'.heap.size
  block : ∀ k, k < w.heap.size → (k < lo ∨ hi ≤ k) → w'.heap[k]? = w.heap[k]?
section
variable {w w' w'' W : World} {lo hi a b base B : Nat} {e : TypeId} {size n : Nat} {v : Value} {xs : List Value}
theorem OwnIn.of (h : w.ownsRow lo e size v n xs) : OwnIn w lo w.heap.size e size v n xs := ⟨h, fun g hg => (ownBlock_some h hg).2⟩
theorem Tch.of_grown (h : w.grownBy w' v.ownBlock) (own : OwnIn w lo hi e size v n xs) : Tch lo hi w w' :=
  ⟨h.os, h.tape, h.output, h.size, fun k hk hd => h.block k hk fun hh => by
    have h1 := (ownBlock_some own.row hh.symm).1
    have h2 := own.top k hh.symm
    omega⟩
theorem Tch.of_below (h : Below w.heap.size w w') : Tch lo hi w w' := ⟨h.os, h.tape, h.output, h.size, fun k hk _ => h.block k hk⟩
theorem Tch.trans (h : Tch lo hi w w') (k : Tch lo hi w' w'') : Tch lo hi w w'' :=
  ⟨k.os.trans h.os, k.tape.trans h.tape, k.output.trans h.output, Nat.le_trans h.size k.size, fun i hi hd => (k.block i (Nat.lt_of_lt_of_le hi h.size) hd).trans (h.block i hi hd)⟩
theorem Tch.wide (h : Tch lo hi w w') (h1 : a ≤ lo) (h2 : hi ≤ b) : Tch a b w w' := ⟨h.os, h.tape, h.output, h.size, fun i hi hd => h.block i hi (by omega)⟩
theorem below_tch (h : Below W.heap.size W w) (t : Tch lo hi w w') (hB : W.heap.size ≤ lo) : Below W.heap.size W w' :=
  ⟨t.os.trans h.os, t.tape.trans h.tape, t.output.trans h.output, Nat.le_trans h.size t.size, fun k hk => (t.block k (Nat.lt_of_lt_of_le hk h.size) (.inl (Nat.lt_of_lt_of_le hk hB))).trans (h.block k hk)⟩
theorem OwnIn.tch (h : OwnIn w a b e size v n xs) (t : Tch lo hi w w') (hd : b ≤ lo ∨ hi ≤ a) : OwnIn w' a b e size v n xs :=
  ⟨own_same h.row fun g hg => t.block g (ownBlock_some h.row hg).2 (by have := (ownBlock_some h.row hg).1; have := h.top g hg; omega), h.top⟩
theorem OwnIn.below (h : OwnIn w a b e size v n xs) (hb : Below w.heap.size w w') : OwnIn w' a b e size v n xs :=
  ⟨own_same h.row fun g hg => hb.block g (ownBlock_some h.row hg).2, h.top⟩
theorem OwnIn.reads {A : Option Addr} {c : Nat} (h : OwnIn w a b e size (.slice A n c) n xs) : Reads w w.heap.size size A n xs := Reads.of_own h.row
theorem OwnIn.form (h : OwnIn w a b e size v n xs) : ∃ A c, v = .slice A n c := by
  obtain ⟨A, c, h1, _⟩ := own_form h.row
  exact ⟨A, c, h1⟩
theorem cell_tch {p : Addr} {u : Value} (t : Tch lo hi w w') (h : w.cell? p = some u) (hd : p.block < lo ∨ hi ≤ p.block) : w'.cell? p = some u := by
  have hlt := World.block_lt_of_cell? w p h
  have hb := t.block p.block hlt hd
  rw [← h]
  unfold World.cell?
  rw [hb]
end
end Go.Proofs.Ytljggmgijadjaaa
