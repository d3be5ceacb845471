/- A drawn region by one invariant: the slots' values as a function, the frame a letter whose slots are known. -/
import Derived.Test.YtljggmgijadjaaaRegH
namespace Go.Proofs.Ytljggmgijadjaaa
open Go.RowKit Go.ChangeShapes Go.WideShapes Go.ChangeAt Go.Deep
set_option linter.unusedVariables false
theorem put_same (a : Act) (k : Nat) : a.put (some k) (a.tmps.getD k undef) = a := by
  unfold Act.put
  have : a.tmps.setIfInBounds k (a.tmps.getD k undef) = a.tmps := by
    apply Array.ext
    · simp
    · intro i h1 h2
      rw [Array.getElem_setIfInBounds (by simpa using h1)]
      split
      · rename_i h
        subst h
        simp [h2]
      · rfl
  simp only [this]
def chs : List Nat → Act → (Nat → Value) → Act
  | [], a, f => a
  | k :: ks, a, f => chs ks (a.put (some k) (f k)) f
theorem chs_id (a : Act) : ∀ ks : List Nat, chs ks a (fun n => a.tmps.getD n undef) = a
  | [] => rfl
  | k :: ks => by
    unfold chs
    dsimp only
    rw [put_same]
    exact chs_id a ks
theorem put_out (a : Act) {k d : Nat} (v : Value) (h : d ≠ k) : (a.put (some k) v).tmps.getD d undef = a.tmps.getD d undef := by
  unfold Act.put
  simp only [Array.getD_eq_getD_getElem?]
  rw [Array.getElem?_setIfInBounds_ne (Ne.symm h)]
theorem put_in (a : Act) {k : Nat} (v : Value) (h : k < a.tmps.size) : (a.put (some k) v).tmps.getD k undef = v := by
  unfold Act.put
  simp only [Array.getD_eq_getD_getElem?]
  rw [Array.getElem?_setIfInBounds_self_of_lt h]
  rfl
theorem put_size (a : Act) (k : Nat) (v : Value) : (a.put (some k) v).tmps.size = a.tmps.size := by simp [Act.put]
theorem put_put (a : Act) (k : Nat) (u v : Value) : (a.put (some k) u).put (some k) v = a.put (some k) v := by simp [Act.put]
theorem put_comm (a : Act) {k d : Nat} (u v : Value) (h : d ≠ k) : (a.put (some k) u).put (some d) v = (a.put (some d) v).put (some k) u := by
  simp only [Act.put]
  rw [Array.setIfInBounds_comm u v (Ne.symm h)]
theorem chs_out (f : Nat → Value) {d : Nat} : ∀ (ks : List Nat) (a : Act), d ∉ ks → (chs ks a f).tmps.getD d undef = a.tmps.getD d undef
  | [], a, _ => rfl
  | k :: ks, a, h => by
    unfold chs
    rw [chs_out f ks _ (fun hm => h (List.mem_cons_of_mem _ hm)), put_out]
    rintro rfl
    exact h (by simp)
theorem chs_in (f : Nat → Value) {d : Nat} : ∀ (ks : List Nat) (a : Act), ks.Nodup → d ∈ ks → d < a.tmps.size → (chs ks a f).tmps.getD d undef = f d
  | k :: ks, a, hn, hm, hs => by
    unfold chs
    rw [List.nodup_cons] at hn
    rcases List.mem_cons.1 hm with rfl | hm
    · rw [chs_out f ks _ hn.1, put_in _ _ hs]
    · exact chs_in f ks _ hn.2 hm (by rw [put_size]; exact hs)
theorem chs_comm (f : Nat → Value) {d : Nat} (v : Value) : ∀ (ks : List Nat) (a : Act), d ∉ ks → (chs ks a f).put (some d) v = chs ks (a.put (some d) v) f
  | [], a, _ => rfl
  | k :: ks, a, h => by
    unfold chs
    rw [chs_comm f v ks _ (fun hm => h (List.mem_cons_of_mem _ hm)), put_comm]
    rintro rfl
    exact h (by simp)
theorem chs_congr {f g : Nat → Value} : ∀ (ks : List Nat) (a : Act), (∀ d ∈ ks, f d = g d) → chs ks a f = chs ks a g
  | [], a, _ => rfl
  | k :: ks, a, h => by
    unfold chs
    rw [h k (by simp), chs_congr ks _ fun d hd => h d (List.mem_cons_of_mem _ hd)]
theorem chs_put (f : Nat → Value) {d : Nat} (v : Value) : ∀ (ks : List Nat) (a : Act), ks.Nodup → d ∈ ks → (chs ks a f).put (some d) v = chs ks a (upd f d v)
  | k :: ks, a, hn, hm => by
    unfold chs
    rw [List.nodup_cons] at hn
    by_cases hdk : d = k
    · subst hdk
      rw [chs_comm f v ks _ hn.1, put_put, upd_same]
      refine chs_congr ks _ fun j hj => (upd_ne f v ?_).symm
      rintro rfl
      exact hn.1 hj
    · have hm2 : d ∈ ks := by
        rcases List.mem_cons.1 hm with h | h
        · exact absurd h hdk
        · exact h
      rw [chs_put f v ks _ hn.2 hm2, upd_ne f v (Ne.symm hdk)]
section
variable {P : Program} {ops : Array Oper} {Q : Exit → Act → World → Prop}
/-- What the frame's slots hold. -/
structure Sees (ks : List Nat) (a b : Act) (f : Nat → Value) : Prop where
  i : ∀ d, d ∈ ks → b.tmps.getD d undef = f d
  o : ∀ d, d ∉ ks → b.tmps.getD d undef = a.tmps.getD d undef
theorem wp_region_sl {id : Nat} {a : Act} {w : World} (ks : List Nat) (J : (Nat → Bool) → (Nat → Value) → World → Prop) (hm : P.follows .mixedOrders = true) (hd : backB .any ops = true) (hn : ks.Nodup) (hsz : ∀ d, d ∈ ks → d < a.tmps.size)
    (hdst : (ops.all fun o => match o.dst with | some d => ks.contains d | none => true) = true)
    (h0 : J (fun _ => false) (fun n => a.tmps.getD n undef) w.drew)
    (hstep : ∀ i (L : Nat → Bool) f w' o (b : Act) (K : Act → World → Prop), ops[i]? = some o → L i = false → Waited o L → Closed ops L → J L f w' → Sees ks a b f →
      RowKit.Hid (∀ d v w'', o.dst = some d → J (fun k => decide (k = i) || L k) (upd f d v) w'' → K (b.put (some d) v) w'') →
      RowKit.Hid (∀ w'', o.dst = none → J (fun k => decide (k = i) || L k) f w'' → K b w'') →
      if Region.wanted o (yielded ops b.tmps) = true then Oper.wp P o b w' K Q else K (b.put o.dst undef) w')
    (hend : ∀ L f w', (∀ i, i < ops.size → L i = true) → J L f w' → Q .normal (chs ks a f) w') : (Code.region id ops true).wp P Q a w := by
  refine wp_region_cl (chs ks a) J hm hd (fun n => a.tmps.getD n undef) (chs_id a ks).symm h0 ?_ hend
  intro i L f w' o ho hL hwt hcl hJ
  refine wpOp_step ho (fun K hK => hstep i L f w' o (chs ks a f) K ho hL hwt hcl hJ ⟨fun d hd => chs_in f ks a hn hd (hsz d hd), fun d hd => chs_out f ks a hd⟩ (Lib.hid fun d v w'' hdo hj => ?_) (Lib.hid fun w'' _ hj => hK _ _ ⟨f, rfl, hj⟩))
  refine hK _ _ ⟨upd f d v, ?_, hj⟩
  refine chs_put f v ks a hn ?_
  have h1 := Array.all_eq_true_iff_forall_mem.1 hdst o (Array.mem_of_getElem? ho)
  rw [hdo] at h1
  simpa using h1
end
end Go.Proofs.Ytljggmgijadjaaa
