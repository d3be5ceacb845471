/- A region that draws its order, by one invariant: each operation is shown once, not each order. -/
import Derived.Test.YtljggmgijadjaaaDrawN
import Derived.StillTail
namespace Go.Proofs.Ytljggmgijadjaaa
open Go.RowKit Go.ChangeShapes Go.WideShapes Go.ChangeAt Go.Deep
set_option linter.unusedVariables false
section
variable {P : Program} {md : Region.Mode} {ops : Array Oper} {Q : Exit → Act → World → Prop} {I : Array Bool → Act → World → Prop}
theorem unlisted {listed : Array Bool} {i : Nat} (h : listed.getD i true = false) : ∃ hi : i < listed.toList.length, listed.toList[i] = false := by
  rcases Nat.lt_or_ge i listed.size with h' | h'
  · exact ⟨by simpa using h', by simpa [h'] using h⟩
  · simp [Array.getElem?_eq_none h'] at h
theorem count_zero {listed : Array Bool} (hc : listed.toList.countP (fun b => !b) = 0) : Region.ready md ops listed = [] := by
  cases hr : Region.ready md ops listed with
  | nil => rfl
  | cons i r =>
    have hi : i ∈ Region.ready md ops listed := by rw [hr]; exact List.mem_cons_self
    obtain ⟨hlt, he⟩ := unlisted (mem_ready.1 hi).1
    have := List.countP_eq_zero.1 hc _ (List.getElem_mem hlt)
    rw [he] at this
    simp at this
theorem count_set {listed : Array Bool} {i : Nat} (h : listed.getD i true = false) : (listed.setIfInBounds i true).toList.countP (fun b => !b) + 1 = listed.toList.countP (fun b => !b) := by
  obtain ⟨hlt, he⟩ := unlisted h
  have hpos : 0 < listed.toList.countP (fun b => !b) := List.countP_pos_iff.2 ⟨_, List.getElem_mem hlt, by rw [he]; rfl⟩
  rw [Array.toList_setIfInBounds, List.countP_set hlt, he]
  rw [if_pos (by decide), if_neg (by decide)]
  omega
theorem wpAny_inv (hstep : ∀ i listed a w, i ∈ Region.ready md ops listed → I listed a w → wpOp P ops Q i (fun a' w' => I (listed.setIfInBounds i true) a' w') a w)
    (hend : ∀ listed a w, Region.ready md ops listed = [] → I listed a w → Q .normal a w) :
    ∀ (fuel : Nat) (listed : Array Bool) (a : Act) (w : World), listed.toList.countP (fun b => !b) ≤ fuel → I listed a w → wpAny P md ops Q fuel listed a w
  | 0, listed, a, w, hc, h => by
    have hr := count_zero (md := md) (ops := ops) (show listed.toList.countP (fun b => !b) = 0 by omega)
    exact ⟨hr, hend _ _ _ hr h⟩
  | fuel + 1, listed, a, w, hc, h => ⟨fun hr => hend _ _ _ hr h, fun i hi => wpOp_mono (fun a' w' h' => wpAny_inv hstep hend fuel _ a' w' (by have := count_set (mem_ready.1 hi).1; omega) h') (hstep i _ a w hi h)⟩
def backB (md : Region.Mode) (ops : Array Oper) : Bool :=
  (List.range ops.size).all fun i => match ops[i]? with
    | some o => o.after.all fun e => !Region.binds md e || decide (e.on < i)
    | none => true
theorem ready_nil_all {listed : Array Bool} (hd : backB md ops = true) (hs : listed.size = ops.size) (h : Region.ready md ops listed = []) : ∀ i, i < ops.size → listed.getD i false = true := by
  intro i
  induction i using Nat.strongRecOn with
  | _ i ih =>
    intro hi
    cases hl : listed.getD i false with
    | true => rfl
    | false =>
      have h1 := List.all_eq_true.1 hd i (List.mem_range.2 hi)
      have ho : ops[i]? = some ops[i] := Array.getElem?_eq_getElem hi
      rw [ho] at h1
      dsimp only at h1
      have hm : i ∈ Region.ready md ops listed := mem_ready.2 ⟨getD_in (by omega) hl, ops[i], ho, fun e he hb => by
        have h2 := Array.all_eq_true_iff_forall_mem.1 h1 e he
        rw [hb] at h2
        have h3 : e.on < i := by simpa using h2
        exact ih e.on h3 (by omega)⟩
      rw [h] at hm
      cases hm
/-- The rule: I at the start; kept by each operation wherever it may come up; at the end all has come up. -/
theorem wp_region_inv {id : Nat} {a : Act} {w : World} (hm : P.follows .mixedOrders = true) (hd : backB .any ops = true)
    (h0 : I (Array.replicate ops.size false) a w.drew)
    (hstep : ∀ i listed a w, listed.size = ops.size → i ∈ Region.ready .any ops listed → I listed a w → wpOp P ops Q i (fun a' w' => I (listed.setIfInBounds i true) a' w') a w)
    (hend : ∀ listed a w, (∀ i, i < ops.size → listed.getD i false = true) → I listed a w → Q .normal a w) : (Code.region id ops true).wp P Q a w := by
  refine wp_region_any hm (wpAny_inv (I := fun listed a w => listed.size = ops.size ∧ I listed a w) (fun i listed a w hi h => ?_) (fun listed a w hr h => hend _ _ _ (ready_nil_all hd h.1 hr) h.2) _ _ _ _ ?_ ⟨by simp, h0⟩)
  · exact wpOp_mono (fun a' w' h' => ⟨by simpa using h.1, h'⟩) (hstep i listed a w h.1 hi h.2)
  · rw [Array.toList_replicate, List.countP_replicate]
    simp
end
end Go.Proofs.Ytljggmgijadjaaa
