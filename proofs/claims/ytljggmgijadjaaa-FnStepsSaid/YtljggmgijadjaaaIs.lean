/- Values that a call made, one form for every type: to, eq, sz, mark, held. Arguments opened: walks, batches, steps, edges. -/
import Derived.Test.YtljggmgijadjaaaMk
namespace Go.Proofs.Ytljggmgijadjaaa
open Go.RowKit Go.ChangeShapes Go.WideShapes Go.ChangeAt Go.Deep
set_option linter.unusedVariables false

/-- A slice of the call's own in [lo, hi). -/
structure RIs (w : World) (lo hi : Nat) (e : TypeId) (size : Nat) (A : Option Addr) (n c : Nat) (xs : List Value) : Prop where
  own : OwnIn w lo hi e size (.slice A n c) n xs
  bd : n ≤ 2000000
section
variable {w w' W : World} {lo hi a b : Nat} {e e' : TypeId} {size size' n m c d : Nat} {A B : Option Addr} {xs ys : List Value}
theorem RIs.below (h : RIs w a b e size A n c xs) (hb : Below w.heap.size w w') : RIs w' a b e size A n c xs := ⟨h.own.below hb, h.bd⟩
theorem RIs.tch (h : RIs w a b e size A n c xs) (t : Tch lo hi w w') (hd : b ≤ lo ∨ hi ≤ a) : RIs w' a b e size A n c xs := ⟨h.own.tch t hd, h.bd⟩
theorem RIs.reads (h : RIs w a b e size A n c xs) : Reads w w.heap.size size A n xs := h.own.reads
theorem RIs.len (h : RIs w a b e size A n c xs) : xs.length = n * size := h.own.row.1
theorem RIs.of (h : w.ownsRow lo e size (.slice A n c) n xs) (bd : n ≤ 2000000) : RIs w lo w.heap.size e size A n c xs := ⟨OwnIn.of h, bd⟩
theorem RIs.wide (h : RIs w a b e size A n c xs) (h1 : lo ≤ a) (h2 : b ≤ hi) : RIs w lo hi e size A n c xs := ⟨⟨own_rebase h.own.row h1, fun g hg => Nat.lt_of_lt_of_le (h.own.top g hg) h2⟩, h.bd⟩
theorem own_ne {u v : Value} (h : w.ownsRow a e size u n xs) (k : w.ownsRow b e' size' v m ys) (hne : e ≠ e') : ∀ g, u.ownBlock = some g → v.ownBlock ≠ some g := by
  intro g hg hg2
  rcases h.2 with ⟨rfl, _⟩ | ⟨g1, cap, cur, rfl, _, hh, _⟩
  · simp [Value.ownBlock] at hg
  · rcases k.2 with ⟨rfl, _⟩ | ⟨g2, cap2, cur2, rfl, _, hh2, _⟩
    · simp [Value.ownBlock] at hg2
    · have h1 : g1 = g := by simpa [Value.ownBlock] using hg
      have h2 : g2 = g := by simpa [Value.ownBlock] using hg2
      subst h1
      subst h2
      rw [hh] at hh2
      injection hh2 with hh2
      injection hh2 with _ ht
      exact hne ht
end
/-- A graph of the call's own in [lo, hi). -/
structure GIs (w : World) (lo hi : Nat) (A : Option Addr) (n c : Nat) (B : Option Addr) (m d : Nat) (xs ys : List Value) : Prop where
  ou : RIs w lo hi 3 1 A n c xs
  ov : RIs w lo hi 48 4 B m d ys
section
variable {w w' W : World} {lo hi a b : Nat} {n m c d : Nat} {A B : Option Addr} {xs ys : List Value}
theorem GIs.below (h : GIs w a b A n c B m d xs ys) (hb : Below w.heap.size w w') : GIs w' a b A n c B m d xs ys := ⟨h.ou.below hb, h.ov.below hb⟩
theorem GIs.tch (h : GIs w a b A n c B m d xs ys) (t : Tch lo hi w w') (hd : b ≤ lo ∨ hi ≤ a) : GIs w' a b A n c B m d xs ys := ⟨h.ou.tch t hd, h.ov.tch t hd⟩
theorem GIs.gin (h : GIs w a b A n c B m d xs ys) : GIn w a b (.slice A n c) (.slice B m d) n m xs ys := ⟨h.ou.own, h.ov.own, own_ne h.ou.own.row h.ov.own.row (by decide)⟩
theorem GIs.greads {g : G} (h : GIs w a b A n c B m d (g.vs.map iv) (ecs g.es)) : GReads w A n B m g := h.gin.greads
theorem GIs.wide (h : GIs w a b A n c B m d xs ys) (h1 : lo ≤ a) (h2 : b ≤ hi) : GIs w lo hi A n c B m d xs ys := ⟨h.ou.wide h1 h2, h.ov.wide h1 h2⟩
end
/-- What GOwn says, with the two slices' parts named. -/
theorem gis_of {w : World} {base : Nat} {u v : Value} {g : G} (h : GOwn w base u v g) (h1 : g.vs.length ≤ 2000000) (h2 : g.es.length ≤ 2000000) :
    ∃ A c B d, u = .slice A g.vs.length c ∧ v = .slice B g.es.length d ∧ GIs w base w.heap.size A g.vs.length c B g.es.length d (g.vs.map iv) (ecs g.es) := by
  obtain ⟨ov, oe⟩ := h
  obtain ⟨A, c, rfl, _⟩ := own_form ov
  obtain ⟨B, d, rfl, _⟩ := own_form oe
  exact ⟨A, c, B, d, rfl, rfl, RIs.of ov h1, RIs.of oe h2⟩

section
variable (w : World)
end
set_option maxRecDepth 4000
set_option maxHeartbeats 400000
section
variable (w : World)
end
end Go.Proofs.Ytljggmgijadjaaa
