/- A drawn region by one invariant over the values of its slots and what has come up, which is closed under what must come first. -/
import Derived.Test.YtljggmgijadjaaaRegI
import Derived.Deep.RegionHeld3
namespace Go.Proofs.Ytljggmgijadjaaa
open Go.RowKit Go.ChangeShapes Go.WideShapes Go.ChangeAt Go.Deep
set_option linter.unusedVariables false
section
variable {P : Program} {ops : Array Oper} {Q : Exit → Act → World → Prop}
theorem getD_upd {listed : Array Bool} {i : Nat} (hi : i < listed.size) : (fun k => (listed.setIfInBounds i true).getD k false) = fun k => decide (k = i) || listed.getD k false := by
  funext k
  by_cases hk : k = i
  · subst hk
    simp [hi]
  · rw [getD_set_ne false (fun e => hk e.symm)]
    simp [hk]
/-- What an operation waits for has come up. -/
def Waited (o : Oper) (L : Nat → Bool) : Prop := ∀ e ∈ o.after, Region.binds .any e = true → L e.on = true
def Closed (ops : Array Oper) (L : Nat → Bool) : Prop := ∀ i o, ops[i]? = some o → L i = true → Waited o L
theorem Waited.more {o : Oper} {L : Nat → Bool} {i : Nat} (h : Waited o L) : Waited o (fun k => decide (k = i) || L k) := fun e he hb => by
  have := h e he hb
  simp [this]
theorem wp_region_cl {id : Nat} {a : Act} {w : World} (ch : (Nat → Value) → Act) (J : (Nat → Bool) → (Nat → Value) → World → Prop) (hm : P.follows .mixedOrders = true) (hd : backB .any ops = true) (f0 : Nat → Value) (ha : a = ch f0)
    (h0 : J (fun _ => false) f0 w.drew)
    (hstep : ∀ i (L : Nat → Bool) f w' o, ops[i]? = some o → L i = false → Waited o L → Closed ops L → J L f w' →
      wpOp P ops Q i (fun a'' w'' => ∃ f', a'' = ch f' ∧ J (fun k => decide (k = i) || L k) f' w'') (ch f) w')
    (hend : ∀ L f w', (∀ i, i < ops.size → L i = true) → J L f w' → Q .normal (ch f) w') : (Code.region id ops true).wp P Q a w := by
  refine wp_region_inv (I := fun listed a' w' => Closed ops (fun k => listed.getD k false) ∧ ∃ f, a' = ch f ∧ J (fun k => listed.getD k false) f w') hm hd ⟨?_, f0, ha, ?_⟩ ?_ ?_
  · intro i o _ hl
    dsimp only at hl
    rw [getD_replicate_false] at hl
    cases hl
  · have : (fun k => (Array.replicate ops.size false).getD k false) = fun _ => false := by
      funext k
      exact getD_replicate_false _ _
    rw [this]
    exact h0
  · rintro i listed a' w' hs hi ⟨hcl, f, rfl, hJ⟩
    obtain ⟨hl, o, ho, hdep⟩ := mem_ready.1 hi
    have hlt : i < ops.size := (Array.getElem?_eq_some_iff.1 ho).1
    have h1 := hstep i (fun k => listed.getD k false) f w' o ho (getD_both hl) hdep hcl hJ
    rw [getD_upd (by omega)]
    refine wpOp_mono (fun a'' w'' h => ⟨?_, h⟩) h1
    intro j o' ho' hj
    by_cases hji : j = i
    · subst hji
      obtain rfl : o' = o := Option.some.inj (ho'.symm.trans ho)
      exact Waited.more hdep
    · refine Waited.more (hcl j o' ho' ?_)
      simpa [hji] using hj
  · rintro listed a' w' hall ⟨_, f, rfl, hJ⟩
    exact hend _ f w' hall hJ
end
/-- The value of one slot anew. -/
def upd (f : Nat → Value) (d : Nat) (v : Value) : Nat → Value := fun n => if n = d then v else f n
theorem upd_same (f : Nat → Value) (d : Nat) (v : Value) : upd f d v d = v := if_pos rfl
theorem upd_ne (f : Nat → Value) {d n : Nat} (v : Value) (h : n ≠ d) : upd f d v n = f n := if_neg h
end Go.Proofs.Ytljggmgijadjaaa
