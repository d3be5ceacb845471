/- NetBatch: what it computes. -/
import Derived.Test.YtomkgnamjfiocaaGreatDoorApP
import Derived.Test.YtomkgnamjfiocaaGreatDoorInvB
namespace Go.Proofs.YtomkgnamjfiocaaGreatDoor
open Go.RowKit Go.ChangeShapes Go.WideShapes Go.ChangeAt Go.Deep
set_option linter.unusedVariables false
/-- The last of the first k changes that undoes c; none: -1. -/
def netAt (L : List Cg) (c : Cg) : Nat → Int
  | 0 => -1
  | k + 1 => if L[k]? = some (invC c) then (k : Int) else netAt L c k
theorem netAt_lt (L : List Cg) (c : Cg) : ∀ k, -1 ≤ netAt L c k ∧ netAt L c k < k
  | 0 => by simp [netAt]
  | k + 1 => by
    have := netAt_lt L c k
    unfold netAt
    split <;> omega
theorem netAt_hit {L : List Cg} {c y : Cg} {k : Nat} (h : L[k]? = some y) (he : y = invC c) : netAt L c (k + 1) = k := by
  subst he
  simp [netAt, h]
theorem netAt_miss {L : List Cg} {c y : Cg} {k : Nat} (h : L[k]? = some y) (he : ¬ y = invC c) : netAt L c (k + 1) = netAt L c k := by
  simp [netAt, h, he]
def netStep (L : List Cg) (c : Cg) : List Cg := if netAt L c L.length < 0 then L ++ [c] else L.take (netAt L c L.length).toNat ++ L.drop ((netAt L c L.length).toNat + 1)
theorem netStep_no {L : List Cg} {c : Cg} (h : netAt L c L.length = -1) : netStep L c = L ++ [c] := by simp [netStep, h]
theorem netStep_yes {L : List Cg} {c : Cg} {k : Nat} (h : netAt L c L.length = k) : netStep L c = L.take k ++ L.drop (k + 1) := by
  have : ¬ (k : Int) < 0 := by omega
  simp [netStep, h, this]
theorem netStep_len (L : List Cg) (c : Cg) : (netStep L c).length ≤ L.length + 1 := by
  unfold netStep
  split
  · simp
  · simp only [List.length_append, List.length_take, List.length_drop]
    omega
def netL (l : List Cg) (k : Nat) : List Cg := (l.take k).foldl netStep []
theorem netL_succ {l : List Cg} {k : Nat} {c : Cg} (h : l[k]? = some c) : netL l (k + 1) = netStep (netL l k) c := by
  obtain ⟨hk, rfl⟩ := List.getElem?_eq_some_iff.1 h
  unfold netL
  rw [List.take_succ_eq_append_getElem hk, List.foldl_append]
  rfl
theorem netL_len (l : List Cg) : ∀ k, (netL l k).length ≤ k
  | 0 => by simp [netL]
  | k + 1 => by
    have ih := netL_len l k
    by_cases hk : k < l.length
    · rw [netL_succ (List.getElem?_eq_getElem hk)]
      have := netStep_len (netL l k) l[k]
      omega
    · have : netL l (k + 1) = netL l k := by unfold netL; rw [List.take_of_length_le (by omega), List.take_of_length_le (by omega)]
      rw [this]
      omega
def netF (b : Bool) (L : List Cg) (k : Nat) : List Cg := (L.take k).filter fun c => c.ins == b
theorem netF_succ (b : Bool) {L : List Cg} {k : Nat} {c : Cg} (h : L[k]? = some c) : netF b L (k + 1) = netF b L k ++ (if c.ins == b then [c] else []) := filter_succ _ h
theorem netF_len (b : Bool) (L : List Cg) (k : Nat) : (netF b L k).length ≤ k := filter_take_len _ _ _
def netO (L : List Cg) : Nat → List Cg
  | 0 => []
  | j + 1 => netO L j ++ netF (decide (j = 1)) L L.length
theorem netO_len (L : List Cg) : ∀ j, (netO L j).length ≤ j * L.length
  | 0 => by simp [netO]
  | j + 1 => by
    have := netO_len L j
    have := netF_len (decide (j = 1)) L L.length
    rw [netO, List.length_append, Nat.succ_mul]
    omega
theorem netO_two (L : List Cg) : (netO L 2).length = L.length := by
  have h : ∀ M : List Cg, (M.filter fun c => c.ins == false).length + (M.filter fun c => c.ins == true).length = M.length := by
    intro M
    induction M with
    | nil => rfl
    | cons x M ih =>
      rw [List.filter_cons, List.filter_cons]
      cases x.ins <;> simp at ih ⊢ <;> omega
  have := h L
  show ((netO L 0 ++ netF (decide (0 = 1)) L L.length) ++ netF (decide (1 = 1)) L L.length).length = L.length
  simp only [netO, netF, List.take_length, List.nil_append, List.length_append]
  simpa using this
def netB (l : List Cg) : List Cg := netO (netL l l.length) 2
theorem cgcs_cons (x : Cg) (L : List Cg) : cgcs (x :: L) = cgc x ++ cgcs L := by simp [cgcs]
theorem cgcs_take : ∀ (L : List Cg) (k : Nat), (cgcs L).take (k * 5) = cgcs (L.take k)
  | [], k => by simp [cgcs]
  | x :: L, 0 => by simp [cgcs]
  | x :: L, k + 1 => by
    rw [List.take_succ_cons, cgcs_cons, cgcs_cons, ← cgcs_take L k, List.take_append]
    congr 1
    · exact List.take_of_length_le (by simp [cgc]; omega)
    · simp [cgc]; congr 1; omega
theorem cgcs_drop : ∀ (L : List Cg) (k : Nat), (cgcs L).drop (k * 5) = cgcs (L.drop k)
  | [], k => by simp [cgcs]
  | x :: L, 0 => by simp
  | x :: L, k + 1 => by
    rw [List.drop_succ_cons, cgcs_cons, ← cgcs_drop L k, List.drop_append]
    have : (cgc x).drop ((k + 1) * 5) = [] := List.drop_eq_nil_of_le (by simp [cgc]; omega)
    rw [this, List.nil_append]
    simp [cgc]; congr 1; omega
theorem own_snoc_n {w : World} {base q : Nat} {e : TypeId} {v x : Value} {L : List Cg} (y : Cg) (hx : x = .agg #[.bool y.ins, .int .i64 y.e.id, .int .i64 y.e.fr, .int .i64 y.e.to, .int .i64 y.e.lb]) (h : w.ownsRow base e 5 v (q + 1) (cgcs L ++ x.cells.toList)) : w.ownsRow base e 5 v (q + 1) (cgcs (L ++ [y])) := by
  subst hx
  rw [cgcs_append]
  exact h
theorem KeptB.grown {w w' : World} {xb base n size : Nat} {e : TypeId} {v : Value} {xs : List Value} (z : KeptB w xb) (hown : z.W.ownsRow base e size v n xs) (hb : w.heap.size ≤ base) (hg : z.W.grownBy w' v.ownBlock) : ∃ y : KeptB w xb, w' = y.W :=
  ⟨⟨w', z.be.grown hown hb hg⟩, rfl⟩
end Go.Proofs.YtomkgnamjfiocaaGreatDoor
