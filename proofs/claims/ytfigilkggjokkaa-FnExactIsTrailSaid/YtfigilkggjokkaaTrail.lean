/- IsTrail of both packages. -/
import Derived.Test.YtfigilkggjokkaaWalkC
namespace Go.Proofs.Ytfigilkggjokkaa
open Go.RowKit Go.ChangeShapes Go.WideShapes Go.ChangeAt Go.Deep
set_option linter.unusedVariables false
/-- Does an edge of the first k steps bear this number? -/
def hasEd (l : List St) (k : Nat) (i : Int) : Bool := (l.take k).any fun x => x.ed == i
/-- Are the edges of the first k steps all apart? -/
def apartUp (l : List St) (k : Nat) : Bool := (List.range k).all fun j => match l[j]? with | some x => !hasEd l j x.ed | none => true
def trailZ (g : G) (s : Int) (l : List St) : Bool := apartUp l l.length && walkOk g s l
theorem apartUp_succ {l : List St} {k : Nat} {x : St} (h : l[k]? = some x) : apartUp l (k + 1) = (apartUp l k && !hasEd l k x.ed) := by
  unfold apartUp
  rw [List.range_succ, List.all_append]
  simp [h]
theorem apartUp_false {l : List St} {q m : Nat} (h : apartUp l (q + 1) = false) (hq : q < m) : apartUp l m = false := by
  unfold apartUp at *
  rw [List.all_eq_false] at *
  obtain ⟨x, hx, hf⟩ := h
  exact ⟨x, by rw [List.mem_range] at *; omega, hf⟩
theorem hasEd_succ {l : List St} {k : Nat} {x : St} {i : Int} (h : l[k]? = some x) : hasEd l (k + 1) i = (hasEd l k i || (x.ed == i)) := by
  obtain ⟨hk, rfl⟩ := List.getElem?_eq_some_iff.1 h
  unfold hasEd
  rw [List.take_succ_eq_append_getElem hk, List.any_append]
  simp
theorem hasEd_true {l : List St} {k q : Nat} {i : Int} (h : hasEd l (k + 1) i = true) (hq : k < q) : hasEd l q i = true := by
  unfold hasEd at *
  rw [List.any_eq_true] at *
  obtain ⟨x, hx, hf⟩ := h
  exact ⟨x, by
    rw [List.mem_take_iff_getElem] at *
    obtain ⟨j, hj, rfl⟩ := hx
    exact ⟨j, by omega, rfl⟩, hf⟩
/-- The place of the first of the first k steps whose edge bears i, or -1. -/
def posEd (l : List St) (k : Nat) (i : Int) : Int := if hasEd l k i then 0 else -1
set_option maxRecDepth 4000 in
theorem trailClosure_any (x : St) (i : Int) (b : Nat) (w : World) (hb : b < w.heap.size) (hc : w.cell? ⟨b, 0, none⟩ = some (.int .i64 i)) :
    Calls Try.prog 174 #[.agg #[.int .i64 x.ed, .bool x.inv], .pointer (some ⟨b, 0, none⟩)] w fun r w' => r = .returned (.bool (x.ed == i)) ∧ Below w.heap.size w w' := by
  obtain ⟨a, c⟩ := x
  have hne : b ≠ w.heap.size := by omega
  go_enter Try.func174, Try.ntmps174
  go_wp2
  go_ret
  exact ⟨rfl, (Below.refl _ _).alloc (Nat.le_refl _) _⟩
/-- What IndexFunc gives: a number that is negative just where no step is found. -/
def FoundI (l : List St) (k : Nat) (i : Int) (w : World) (e : Ending) (w' : World) : Prop := ∃ z : Int, e = .returned (.int .i64 z) ∧ decide (0 ≤ z) = hasEd l k i ∧ Below w.heap.size w w'
set_option maxRecDepth 4000 in
set_option maxHeartbeats 800000 in
theorem indexFuncSt_any (w : World) {C : Option Addr} {q e n : Nat} {l : List St} (i : Int) (b0 : Nat) (h : SRd w C n l) (hqn : q ≤ n) (hb : b0 < w.heap.size) (hc : w.cell? ⟨b0, 0, none⟩ = some (.int .i64 i)) :
    Calls Try.prog 188 #[.slice C q e, .func (Fn.func 174) #[] #[.pointer (some ⟨b0, 0, none⟩)]] w (FoundI l q i w) := by
  have hn := h.bd
  have HLN := Lib.hid h.ln
  go_enter Try.func188, Try.ntmps188
  go_wp2
  go_loopw [8] (fun j wr => ∃ k : Nat, k ≤ q ∧ j = .int .i64 k ∧ hasEd l k i = false ∧ Below w.heap.size w wr) (fun j _ => q - (intOf j).toNat)
  case atStart => exact ⟨0, Nat.zero_le _, rfl, rfl, Below.refl _ _⟩
  case round =>
    obtain ⟨k, hk, rfl, hno, hbel⟩ := hrel
    have hsz := hbel.size
    by_cases hlt : k < q
    · obtain ⟨b, o, rfl, had, x, hx, c0, c1⟩ := step_at (h.up hbel).rd HLN.out (show k < n by omega)
      have hsx := hasEd_succ (i := i) hx
      rw [hno, Bool.false_or] at hsx
      have HSX := Lib.hid hsx
      have hcr : wr.cell? ⟨b0, 0, none⟩ = some (.int .i64 i) := (hbel.cell (p := ⟨b0, 0, none⟩) hb).trans hc
      clear hx hsx hno
      obtain ⟨xe, xi⟩ := x
      dsimp only at c0 c1
      cases hh : (xe == i)
      · have HS := Lib.hid (show hasEd l (k + 1) i = false by rw [HSX.out, hh])
        go_wp2_with (go_at_call 174; refine (trailClosure_any ⟨xe, xi⟩ i b0 _ (by omega) hcr).mono ?_; rintro r w1 ⟨rfl, hb1⟩; rw [hh])
        go_roundw
        case rel => exact ⟨k + 1, by omega, by go_num, HS.out, hbel.trans (hb1.mono hbel.size)⟩
        case measure => simp [intOf]; omega
      · have HS := Lib.hid (show hasEd l q i = true from hasEd_true (by rw [HSX.out, hh]) hlt)
        go_wp2_with (go_at_call 174; refine (trailClosure_any ⟨xe, xi⟩ i b0 _ (by omega) hcr).mono ?_; rintro r w1 ⟨rfl, hb1⟩; rw [hh])
        go_ret
        exact ⟨_, rfl, by rw [HS.out]; simp, hbel.trans (hb1.mono hbel.size)⟩
    · obtain rfl : k = q := by omega
      have HS := Lib.hid hno
      clear hno
      go_wp2
      go_ret
      exact ⟨_, rfl, by rw [HS.out]; rfl, hbel⟩
set_option maxRecDepth 4000 in
theorem containsFuncSt_any (w : World) {C : Option Addr} {q e n : Nat} {l : List St} (i : Int) (b0 : Nat) (h : SRd w C n l) (hqn : q ≤ n) (hb : b0 < w.heap.size) (hc : w.cell? ⟨b0, 0, none⟩ = some (.int .i64 i)) :
    Calls Try.prog 173 #[.slice C q e, .func (Fn.func 174) #[] #[.pointer (some ⟨b0, 0, none⟩)]] w fun r w' => r = .returned (.bool (hasEd l q i)) ∧ Below w.heap.size w w' := by
  go_enter Try.func173, Try.ntmps173
  go_wp2_with fail
  refine (indexFuncSt_any w i b0 h hqn hb hc).mono ?_
  rintro r w1 ⟨z, rfl, hz, hb1⟩
  have HZ := Lib.hid hz
  clear hz
  go_wp2
  go_ret
  exact ⟨by rw [← HZ.out] <;> rfl, hb1⟩
end Go.Proofs.Ytfigilkggjokkaa
