/- FormatWord of both packages. -/
import Derived.Test.YtomkgnamjfiocaaGreatDoorBaseA
import Derived.Test.YtomkgnamjfiocaaGreatDoorShelf
import Derived.Lib.Join
namespace Go.Proofs.YtomkgnamjfiocaaGreatDoor
open Go.RowKit Go.ChangeShapes Go.WideShapes Go.ChangeAt Go.Deep
set_option linter.unusedVariables false
def fmtWd (xs : List Int) : List UInt8 := if wordB xs then (if xs = [] then [40, 41] else Lib.join (xs.map fmtL) [32]) else []
theorem wordB_len {xs : List Int} (h : wordB xs = true) : xs.length ≤ 8 := by
  simp only [wordB, Bool.and_eq_true, decide_eq_true_eq] at h
  exact h.2
theorem fmtL_len (x : Int) : (fmtL x).length ≤ 2 := by
  unfold fmtL
  split
  · rename_i h
    have h' := inB_true.1 h
    have : x = 0 ∨ x = 1 ∨ x = 2 ∨ x = 3 ∨ x = 4 ∨ x = 5 ∨ x = 6 ∨ x = 7 ∨ x = 8 := by omega
    rcases this with rfl | rfl | rfl | rfl | rfl | rfl | rfl | rfl | rfl <;> decide
  · simp
theorem join_succ (Y : List (List UInt8)) (sep y : List UInt8) (k : Nat) (hy : Y[k]? = some y) : Lib.join (Y.take (k + 1)) sep = if k = 0 then y else Lib.join (Y.take k) sep ++ sep ++ y := by
  match Y, k, hy with
  | x :: r, 0, hy =>
    simp at hy
    subst hy
    simp [Lib.join_one]
  | x :: r, k + 1, hy =>
    rw [List.getElem?_cons_succ] at hy
    rw [List.take_succ_cons, List.take_succ_cons, Lib.join_cons, Lib.join_cons, Lib.joinTail_take_succ sep r k y hy]
    simp
theorem join_len2 : ∀ (Y : List (List UInt8)), (∀ y ∈ Y, y.length ≤ 2) → (Lib.join Y [32]).length ≤ 3 * Y.length
  | [], _ => by simp [Lib.join_nil]
  | x :: r, h => by
    rw [Lib.join_length]
    have : ∀ r : List (List UInt8), (∀ y ∈ r, y.length ≤ 2) → Lib.lens r ≤ 2 * r.length := by
      intro r
      induction r with
      | nil => intro _; simp [Lib.lens]
      | cons y r ih =>
        intro h
        have h1 := h y (by simp)
        have h2 := ih (fun z hz => h z (by simp [hz]))
        simp [Lib.lens] at h2 ⊢
        omega
    have := this (x :: r) h
    simp at this ⊢
    omega
theorem IRd.at_ {w : World} {A : Option Addr} {n k : Nat} {xs : List Int} (h : IRd w A n xs) (hk : k < n) : ∃ b o x, A = some ⟨b, o, none⟩ ∧ b < w.heap.size ∧ xs[k]? = some x ∧ w.cell? ⟨b, o + k, none⟩ = some (.int .i64 x) := by
  obtain ⟨⟨b, o, sp⟩, u, rfl, hb, hu, hc⟩ := h.rd.at_ hk
  have hl := h.ln
  have hv := iv_get hu (by omega)
  subst hv
  have h0 := (h.rd.2 (by omega))
  obtain ⟨ad, he, _, hcc⟩ := h0
  injection he with he
  subst he
  have hsp : sp = none := by
    have h0 := hcc 0 (iv xs[0]) (by rw [List.getElem?_map, List.getElem?_eq_getElem (by omega)]; rfl)
    simpa [Addr.add] using World.cell?_spot h0
  subst hsp
  rw [add_plain] at hc
  exact ⟨b, o, _, rfl, hb, List.getElem?_eq_getElem (by omega), hc⟩
theorem app_str : AppTy Tryz.prog 81 9 (.string ⟨#[]⟩) 1 16 := ⟨Tryz.underlying81, by kernel_rfl, rfl, by decide⟩
def sv (l : List UInt8) : Value := .string ⟨l.toArray⟩
theorem own_snoc_str {w : World} {base n : Nat} {e : TypeId} {v x : Value} {L : List (List UInt8)} (y : List UInt8) (hx : x = sv y) (h : w.ownsRow base e 1 v (n + 1) (L.map sv ++ x.cells.toList)) : w.ownsRow base e 1 v (n + 1) ((L ++ [y]).map sv) := by
  subst hx
  rw [List.map_append]
  exact h
theorem sv_one (l : List (List UInt8)) : ∀ u ∈ l.map sv, u.oneCell' = true := by
  intro u hu
  obtain ⟨x, _, rfl⟩ := List.mem_map.1 hu
  rfl
end Go.Proofs.YtomkgnamjfiocaaGreatDoor
