/- Contracts of EdgeIndex of both packages. -/
import Derived.Test.YtljggmgijadjaaaEdge
namespace Go.Proofs.Ytljggmgijadjaaa
open Go.RowKit Go.ChangeShapes Go.WideShapes Go.ChangeAt Go.Deep
set_option linter.unusedVariables false

def ixN (es : List E) (i : Int) : Nat := es.findIdx (fun e => e.id == i)
def ixE (es : List E) (i : Int) : Int := if ixN es i < es.length then (ixN es i : Int) else -1
theorem ixN_le (es : List E) (i : Int) : ixN es i ≤ es.length := List.findIdx_le_length
theorem ix_step {es : List E} {i : Int} {k : Nat} {e : E} (he : es[k]? = some e) (h : k ≤ ixN es i) : (e.id = i → ixN es i = k) ∧ (¬ e.id = i → k + 1 ≤ ixN es i) := by
  obtain ⟨hk, hx⟩ := get_of_some he
  have hnot : ∀ j, (hj : j < ixN es i) → (hl : j < es.length) → ¬ (es[j]).id = i := fun j hj hl => by
    have := List.not_of_lt_findIdx (p := fun e : E => e.id == i) hj
    simpa using this
  constructor
  · intro hs
    rcases Nat.lt_or_ge k (ixN es i) with h2 | h2
    · exact absurd (by rw [hx]; exact hs) (hnot k h2 hk)
    · omega
  · intro hs
    rcases Nat.lt_or_ge k (ixN es i) with h2 | h2
    · omega
    · have he : ixN es i = k := by omega
      have hlt : List.findIdx (fun e : E => e.id == i) es < es.length := by
        show ixN es i < _
        omega
      have h3 := List.findIdx_getElem (w := hlt)
      have h4 : (es[ixN es i]'(by omega)).id = i := by
        have : (es[List.findIdx (fun e : E => e.id == i) es]).id == i := h3
        exact eq_of_beq this
      simp only [he, hx] at h4
      exact absurd h4 hs
set_option maxRecDepth 4000 in
theorem ixClosure_any (e : E) (i : Int) (b : Nat) (w : World) (hb : b < w.heap.size) (hc : w.cell? ⟨b, 0, none⟩ = some (.int .i64 i)) :
    Calls Try.prog 43 #[.agg #[.int .i64 e.id, .int .i64 e.fr, .int .i64 e.to, .int .i64 e.lb], .pointer (some ⟨b, 0, none⟩)] w fun r w' => r = .returned (.bool (e.id == i)) ∧ Below w.heap.size w w' := by
  obtain ⟨x, y, z, t⟩ := e
  have hne : b ≠ w.heap.size := by omega
  go_enter Try.func43, Try.ntmps43
  go_wp2
  go_ret
  exact ⟨rfl, (Below.refl _ _).alloc (Nat.le_refl _) _⟩
set_option maxRecDepth 4000 in
set_option maxHeartbeats 800000 in
theorem indexFunc_any (B : Option Addr) (m d : Nat) (es : List E) (i : Int) (b0 : Nat) (w : World) (hl : es.length = m) (hm : m ≤ 2000000) (hr : Reads w w.heap.size 4 B m (ecs es)) (hb : b0 < w.heap.size) (hc : w.cell? ⟨b0, 0, none⟩ = some (.int .i64 i)) :
    Calls Try.prog 42 #[.slice B m d, .func (Fn.func 43) #[] #[.pointer (some ⟨b0, 0, none⟩)]] w fun e w' => e = .returned (.int .i64 (ixE es i)) ∧ Below w.heap.size w w' := by
  have hle := ixN_le es i
  go_enter Try.func42, Try.ntmps42
  go_wp2
  go_loopw [8] (fun q wr => ∃ k : Nat, k ≤ m ∧ q = .int .i64 k ∧ k ≤ ixN es i ∧ Below w.heap.size w wr) (fun q _ => m - (intOf q).toNat)
  case atStart => exact ⟨0, Nat.zero_le _, rfl, Nat.zero_le _, Below.refl _ _⟩
  case round =>
    obtain ⟨k, hk, rfl, hix, hbel⟩ := hrel
    have hsz := hbel.size
    by_cases hlt : k < m
    · obtain ⟨b, o, rfl, had, e, he, c0, c1, c2, c3⟩ := edge_at (hr.below hbel) hl hlt
      have hst := ix_step he hix
      have hcr : wr.cell? ⟨b0, 0, none⟩ = some (.int .i64 i) := (hbel.cell (p := ⟨b0, 0, none⟩) hb).trans hc
      clear he
      by_cases hh : e.id = i
      · have hE : ixE es i = (k : Int) := by unfold ixE; rw [hst.1 hh, if_pos (by omega)]
        have HE := Lib.hid hE
        have hq : (e.id == i) = true := by simpa using hh
        clear hE hh hst
        go_wp2_with (go_at_call 43; refine (ixClosure_any e i b0 _ (by omega) hcr).mono ?_; rintro r w1 ⟨rfl, hb1⟩; rw [hq])
        go_ret
        exact ⟨by rw [HE.out] <;> rfl, hbel.trans (hb1.mono hbel.size)⟩
      · have HS := Lib.hid (hst.2 hh)
        have hq : (e.id == i) = false := by simpa using hh
        clear hst hh
        go_wp2_with (go_at_call 43; refine (ixClosure_any e i b0 _ (by omega) hcr).mono ?_; rintro r w1 ⟨rfl, hb1⟩; rw [hq])
        go_roundw
        case rel => exact ⟨k + 1, by omega, by go_num, HS.out, hbel.trans (hb1.mono hbel.size)⟩
        case measure => simp [intOf]; omega
    · have hE : ixE es i = -1 := by unfold ixE; rw [if_neg (by omega)]
      have HE := Lib.hid hE
      clear hE
      go_wp2
      go_ret
      exact ⟨by rw [HE.out] <;> rfl, hbel⟩
set_option maxRecDepth 4000 in
theorem implEdgeIx_any (A B : Option Addr) (n c m d : Nat) (es : List E) (i : Int) (w : World) (hl : es.length = m) (hm : m ≤ 2000000) (hr : Reads w w.heap.size 4 B m (ecs es)) :
    Calls Try.prog 37 #[.agg #[.slice A n c, .slice B m d], .int .i64 i] w fun e w' => e = .returned (.int .i64 (ixE es i)) ∧ Below w.heap.size w w' := by
  go_enter Try.func37, Try.ntmps37
  go_wp2_with fail
  have hB0 : Below w.heap.size w ((w.alloc (.cells #[.slice A n c, .slice B m d] 27)).alloc (.cells #[.int .i64 i] 3)) := ((Below.refl _ _).alloc (Nat.le_refl _) _).alloc (by simp) _
  refine (indexFunc_any B m d es i (w.heap.size + 1) _ hl hm (reads_up hr hB0) (by simp) (by go_simp)).mono ?_
  rintro e w1 ⟨rfl, hb1⟩
  go_wp2
  go_ret
  exact ⟨rfl, below_then hB0 hb1⟩
end Go.Proofs.Ytljggmgijadjaaa
