/- Rows of structs, said once for every element type; steps: toStep, toStepS, eqStep, eqStepS, markStepS, heldStepS. -/
import Derived.Test.YtljggmgijadjaaaGMark2
import Derived.Test.YtljggmgijadjaaaArgs
namespace Go.Proofs.Ytljggmgijadjaaa
open Go.RowKit Go.ChangeShapes Go.WideShapes Go.ChangeAt Go.Deep
set_option linter.unusedVariables false

theorem elem_at {α : Type} {f : α → List Value} {size : Nat} (hf : ∀ a, (f a).length = size) (hs : 0 < size) {w : World} {B n k : Nat} {A : Option Addr} {l : List α} (h : Reads w B size A n (l.flatMap f)) (hl : l.length = n) (hk : k < n) :
    ∃ b o, A = some ⟨b, o, none⟩ ∧ b < B ∧ ∃ a, l[k]? = some a ∧ ∀ j u, (f a)[j]? = some u → w.cell? ⟨b, o + k * size + j, none⟩ = some u := by
  obtain ⟨b, o, hA, hb, hc⟩ := row_at h (by omega) hs
  have hkl : k < l.length := by omega
  refine ⟨b, o, hA, hb, l[k], List.getElem?_eq_getElem hkl, fun j u hj => ?_⟩
  have hjs : j < size := by
    have := (List.getElem?_eq_some_iff.1 hj).1
    rw [hf] at this
    exact this
  have h1 := flatMap_at f size hf l k j hkl hjs
  rw [hj] at h1
  have := hc _ _ h1
  rwa [← Nat.add_assoc] at this
theorem flatMap_get {α : Type} {f : α → List Value} {size : Nat} (hf : ∀ a, (f a).length = size) {l : List α} {k j : Nat} {a : α} {u : Value} (hk : l[k]? = some a) (hj : (f a)[j]? = some u) : (l.flatMap f)[k * size + j]? = some u := by
  obtain ⟨hkl, rfl⟩ := List.getElem?_eq_some_iff.1 hk
  have hjs : j < size := by
    have := (List.getElem?_eq_some_iff.1 hj).1
    rw [hf] at this
    exact this
  rw [flatMap_at f size hf l k j hkl hjs, hj]
theorem own2 {w : World} {base g n cap k : Nat} {e : TypeId} {R L : List Value} {u0 u1 : Value} (h : w.ownsRow base e 2 (.slice (some ⟨g, 0, none⟩) n cap) n (R.take (k * 2) ++ L.drop (k * 2))) (hL : L.length = R.length)
    (h0 : R[k * 2]? = some u0) (h1 : R[k * 2 + 1]? = some u1) :
    ((w.setCell ⟨g, k * 2, none⟩ u0).setCell ⟨g, k * 2 + 1, none⟩ u1).ownsRow base e 2 (.slice (some ⟨g, 0, none⟩) n cap) n (R.take ((k + 1) * 2) ++ L.drop ((k + 1) * 2)) := by
  obtain ⟨k0, e0⟩ := get_of_some h0
  obtain ⟨k1, e1⟩ := get_of_some h1
  have s0 := (h.stored (k * 2) u0).1
  rw [set_take L R _ _ k0 hL e0] at s0
  have s1 := (s0.stored (k * 2 + 1) u1).1
  rw [set_take L R _ _ k1 hL e1] at s1
  have hk : (k + 1) * 2 = k * 2 + 1 + 1 := by omega
  rw [hk]
  exact s1
theorem own5 {w : World} {base g n cap k : Nat} {e : TypeId} {R L : List Value} {u0 u1 u2 u3 u4 : Value} (h : w.ownsRow base e 5 (.slice (some ⟨g, 0, none⟩) n cap) n (R.take (k * 5) ++ L.drop (k * 5))) (hL : L.length = R.length)
    (h0 : R[k * 5]? = some u0) (h1 : R[k * 5 + 1]? = some u1) (h2 : R[k * 5 + 2]? = some u2) (h3 : R[k * 5 + 3]? = some u3) (h4 : R[k * 5 + 4]? = some u4) :
    (((((w.setCell ⟨g, k * 5, none⟩ u0).setCell ⟨g, k * 5 + 1, none⟩ u1).setCell ⟨g, k * 5 + 2, none⟩ u2).setCell ⟨g, k * 5 + 3, none⟩ u3).setCell ⟨g, k * 5 + 4, none⟩ u4).ownsRow base e 5 (.slice (some ⟨g, 0, none⟩) n cap) n (R.take ((k + 1) * 5) ++ L.drop ((k + 1) * 5)) := by
  obtain ⟨k0, e0⟩ := get_of_some h0
  obtain ⟨k1, e1⟩ := get_of_some h1
  obtain ⟨k2, e2⟩ := get_of_some h2
  obtain ⟨k3, e3⟩ := get_of_some h3
  obtain ⟨k4, e4⟩ := get_of_some h4
  have s0 := (h.stored (k * 5) u0).1
  rw [set_take L R _ _ k0 hL e0] at s0
  have s1 := (s0.stored (k * 5 + 1) u1).1
  rw [set_take L R _ _ k1 hL e1] at s1
  have s2 := (s1.stored (k * 5 + 2) u2).1
  rw [set_take L R _ _ k2 hL e2] at s2
  have s3 := (s2.stored (k * 5 + 3) u3).1
  rw [set_take L R _ _ k3 hL e3] at s3
  have s4 := (s3.stored (k * 5 + 4) u4).1
  rw [set_take L R _ _ k4 hL e4] at s4
  have hk : (k + 1) * 5 = k * 5 + 4 + 1 := by omega
  rw [hk]
  exact s4
theorem flatMap_one_cell {α : Type} {f : α → List Value} (hf : ∀ a, ∀ u ∈ f a, u.oneCell' = true) (l : List α) : ∀ u ∈ l.flatMap f, u.oneCell' = true := by
  intro u hu
  obtain ⟨a, _, ha⟩ := List.mem_flatMap.1 hu
  exact hf a u ha

/-! ### steps -/
structure St where
  ed : Int
  inv : Bool
deriving DecidableEq
def stc (s : St) : List Value := [.int .i64 s.ed, .bool s.inv]
def stcs (l : List St) : List Value := l.flatMap stc
theorem stc_len (s : St) : (stc s).length = 2 := rfl
theorem stcs_len (l : List St) : (stcs l).length = l.length * 2 := flatMap_len stc 2 stc_len l
theorem stcs_append (a b : List St) : stcs (a ++ b) = stcs a ++ stcs b := by simp [stcs]
theorem stcs_one (l : List St) : ∀ u ∈ stcs l, u.oneCell' = true := by
  refine flatMap_one_cell (fun s u hu => ?_) l
  simp [stc] at hu
  rcases hu with rfl | rfl <;> rfl
theorem app_step : AppTy Try.prog 30 33 (.agg #[.int .i64 0, .bool false]) 2 16 := ⟨Try.underlying30, by kernel_rfl, rfl, by decide⟩
theorem step_at {w : World} {B n k : Nat} {A : Option Addr} {l : List St} (h : Reads w B 2 A n (stcs l)) (hl : l.length = n) (hk : k < n) :
    ∃ b o, A = some ⟨b, o, none⟩ ∧ b < B ∧ ∃ s, l[k]? = some s ∧ w.cell? ⟨b, o + k * 2, none⟩ = some (.int .i64 s.ed) ∧ w.cell? ⟨b, o + k * 2 + 1, none⟩ = some (.bool s.inv) := by
  obtain ⟨b, o, hA, hb, s, hs, hc⟩ := elem_at stc_len (by decide) h hl hk
  exact ⟨b, o, hA, hb, s, hs, hc 0 _ rfl, hc 1 _ rfl⟩
end Go.Proofs.Ytljggmgijadjaaa
