/- Edges and graphs written and read again: markEdgeS, heldEdgeS, markGraph, heldGraph. -/
import Derived.Test.YtljggmgijadjaaaOwn
import Derived.Test.YtljggmgijadjaaaEdgeQ
namespace Go.Proofs.Ytljggmgijadjaaa
open Go.RowKit Go.ChangeShapes Go.WideShapes Go.ChangeAt Go.Deep
set_option linter.unusedVariables false

theorem marks_get (k n i : Nat) (h : i < n) : ((marks k n).map iv)[i]? = some (iv ((k : Int) + i)) := by
  rw [List.getElem?_map, List.getElem?_eq_getElem (by rw [marks_len]; exact h), marks_at k n i h]
  simp
theorem row_at {w : World} {B n size : Nat} {A : Option Addr} {xs : List Value} (h : Reads w B size A n xs) (hn : 0 < n) (hs : 0 < size) :
    ∃ b o, A = some ⟨b, o, none⟩ ∧ b < B ∧ ∀ j u, xs[j]? = some u → w.cell? ⟨b, o + j, none⟩ = some u := by
  obtain ⟨⟨b, o, sp⟩, hA, hb, hc⟩ := h.2 hn
  have hl := h.1
  have hpos : 0 < xs.length := by rw [hl]; exact Nat.mul_pos hn hs
  have hsp : sp = none := by
    have h0 := hc 0 _ (List.getElem?_eq_getElem hpos)
    simpa [Addr.add] using World.cell?_spot h0
  subst hsp
  exact ⟨b, o, hA, hb, fun j u hj => by have := hc j u hj; rwa [add_plain] at this⟩
/-- A graph of the call's own in [lo, hi), its two rows in blocks of their own. -/
structure GIn (w : World) (lo hi : Nat) (u v : Value) (n m : Nat) (xs ys : List Value) : Prop where
  ou : OwnIn w lo hi 3 1 u n xs
  ov : OwnIn w lo hi 48 4 v m ys
  ne : ∀ g, u.ownBlock = some g → v.ownBlock ≠ some g
section
variable {w w' : World} {lo hi a b : Nat} {u v : Value} {n m : Nat} {xs ys : List Value}
theorem GIn.tch (h : GIn w a b u v n m xs ys) (t : Tch lo hi w w') (hd : b ≤ lo ∨ hi ≤ a) : GIn w' a b u v n m xs ys := ⟨h.ou.tch t hd, h.ov.tch t hd, h.ne⟩
theorem GIn.below (h : GIn w a b u v n m xs ys) (hb : Below w.heap.size w w') : GIn w' a b u v n m xs ys := ⟨h.ou.below hb, h.ov.below hb, h.ne⟩
theorem GIn.form (h : GIn w a b u v n m xs ys) : ∃ A c B d, u = .slice A n c ∧ v = .slice B m d := by
  obtain ⟨A, c, h1⟩ := h.ou.form
  obtain ⟨B, d, h2⟩ := h.ov.form
  exact ⟨A, c, B, d, h1, h2⟩
theorem GIn.greads {A B : Option Addr} {c d : Nat} {g : G} (h : GIn w a b (.slice A n c) (.slice B m d) n m (g.vs.map iv) (ecs g.es)) : GReads w A n B m g :=
  ⟨by have := h.ou.row.1; simpa using this, by have := h.ov.row.1; rw [ecs_len] at this; omega, h.ou.reads, h.ov.reads⟩
end
theorem OwnIn.grown {w w' : World} {a b : Nat} {e : TypeId} {size n : Nat} {v : Value} {xs : List Value} {row : Option Nat} (h : OwnIn w a b e size v n xs) (hg : w.grownBy w' row) (hne : ∀ g, v.ownBlock = some g → row ≠ some g) : OwnIn w' a b e size v n xs :=
  ⟨own_same h.row fun g hh => hg.block g (ownBlock_some h.row hh).2 fun he => hne g hh he.symm, h.top⟩
end Go.Proofs.Ytljggmgijadjaaa
