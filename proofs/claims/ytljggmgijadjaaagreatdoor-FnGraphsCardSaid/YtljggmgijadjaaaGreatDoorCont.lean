/- slices.Contains over edges; l6Has: in a valid graph they say the same. -/
import Derived.Test.YtljggmgijadjaaaGreatDoorSEq
import Derived.Test.YtljggmgijadjaaaGreatDoorStepA
import Derived.Test.YtljggmgijadjaaaGreatDoorStepsF
namespace Go.Proofs.YtljggmgijadjaaaGreatDoor
open Go.RowKit Go.ChangeShapes Go.WideShapes Go.ChangeAt Go.Deep
set_option linter.unusedVariables false
def hasB (es : List E) (e : E) : Bool := decide (e ∈ es)
def hasUp (es : List E) (k : Nat) (e : E) : Bool := decide (e ∈ es.take k)
theorem hasUp_succ {es : List E} {k : Nat} {x e : E} (h : es[k]? = some x) : hasUp es (k + 1) e = (hasUp es k e || decide (e = x)) := by
  obtain ⟨hk, rfl⟩ := List.getElem?_eq_some_iff.1 h
  unfold hasUp
  rw [List.take_succ_eq_append_getElem hk, Bool.eq_iff_iff]
  simp only [decide_eq_true_eq, Bool.or_eq_true, List.mem_append, List.mem_singleton]
theorem hasUp_all (es : List E) (e : E) {n : Nat} (h : es.length = n) : hasUp es n e = hasB es e := by
  unfold hasUp hasB
  rw [List.take_of_length_le (by omega)]
theorem hasUp_true {es : List E} {k : Nat} {e : E} (h : hasUp es k e = true) : hasB es e = true := by
  unfold hasUp hasB at *
  simp only [decide_eq_true_eq] at *
  exact List.mem_of_mem_take h
def FoundE (b : Bool) (w : World) (e : Ending) (w' : World) : Prop := ∃ z : Int, e = .returned (.int .i64 z) ∧ decide (0 ≤ z) = b ∧ Below w.heap.size w w'
set_option maxRecDepth 4000 in
set_option maxHeartbeats 1000000 in
theorem slIdxE_any (w : World) {B : Option Addr} {m d : Nat} {es : List E} (h : ERd w B m es) (e : E) :
    Calls Tryz.prog 134 #[.slice B m d, .agg #[.int .i64 e.id, .int .i64 e.fr, .int .i64 e.to, .int .i64 e.lb]] w (FoundE (hasB es e) w) := by
  have hm := h.bd
  have HL := Lib.hid h.ln
  have HA := Lib.hid (hasUp_all es e h.ln)
  have HT := Lib.hid (fun k => hasUp_true (es := es) (k := k) (e := e))
  obtain ⟨a, b, c, d'⟩ := e
  have hB0 : Below w.heap.size w (w.alloc (.cells #[.int .i64 a, .int .i64 b, .int .i64 c, .int .i64 d'] 29)) := (Below.refl _ _).alloc (Nat.le_refl _) _
  have x0 : (w.alloc (.cells #[.int .i64 a, .int .i64 b, .int .i64 c, .int .i64 d'] 29)).cell? ⟨w.heap.size, 0, none⟩ = some (.int .i64 a) := by go_simp
  have x1 : (w.alloc (.cells #[.int .i64 a, .int .i64 b, .int .i64 c, .int .i64 d'] 29)).cell? ⟨w.heap.size, 1, none⟩ = some (.int .i64 b) := by go_simp
  have x2 : (w.alloc (.cells #[.int .i64 a, .int .i64 b, .int .i64 c, .int .i64 d'] 29)).cell? ⟨w.heap.size, 2, none⟩ = some (.int .i64 c) := by go_simp
  have x3 : (w.alloc (.cells #[.int .i64 a, .int .i64 b, .int .i64 c, .int .i64 d'] 29)).cell? ⟨w.heap.size, 3, none⟩ = some (.int .i64 d') := by go_simp
  go_enter Tryz.func134, Tryz.ntmps134
  go_wp2
  generalize (w.alloc (.cells #[.int .i64 a, .int .i64 b, .int .i64 c, .int .i64 d'] 29)) = w0 at *
  go_loopw [8] (fun i wr => ∃ k : Nat, k ≤ m ∧ i = .int .i64 k ∧ hasUp es k ⟨a, b, c, d'⟩ = false ∧ ∃ p, wr = w0.drewN p) (fun i _ => m - (intOf i).toNat)
  case atStart => exact ⟨0, Nat.zero_le _, rfl, by simp [hasUp], 0, rfl⟩
  case round =>
    obtain ⟨k, hk, rfl, hno, p, rfl⟩ := hrel
    by_cases hlt : k < m
    · obtain ⟨b2, o2, rfl, hb2, y, hy, d0, d1, d2, d3⟩ := edge_at (h.up hB0).rd HL.out hlt
      have hs := hasUp_succ (e := ⟨a, b, c, d'⟩) hy
      rw [hno, Bool.false_or] at hs
      have HS := Lib.hid hs
      have hEq := eqlE_run ⟨a, b, c, d'⟩ y
      have hlt' : (k : Int) < m := by omega
      have hk0 : (0 : Int) ≤ (k : Int) := by omega
      clear hy hno hs
      obtain ⟨y0, y1, y2, y3⟩ := y
      dsimp only at d0 d1 d2 d3 hEq
      by_cases hxy : (E.mk a b c d' = E.mk y0 y1 y2 y3)
      · rw [decide_eq_true hxy] at hEq
        have HF := Lib.hid (show hasB es ⟨a, b, c, d'⟩ = true from HT.out (k + 1) (by rw [HS.out, decide_eq_true hxy]))
        clear hxy
        go_wp2
        go_quiet (fail)
        go_wp2
        go_ret
        exact ⟨_, rfl, by rw [HF.out]; simp, below_drewN (below_drewN hB0 _) _⟩
      · rw [decide_eq_false hxy] at hEq
        have HF := Lib.hid (show hasUp es (k + 1) ⟨a, b, c, d'⟩ = false by rw [HS.out, decide_eq_false hxy])
        clear hxy
        go_wp2
        go_quiet (fail)
        go_wp2
        go_roundw
        case rel => exact ⟨k + 1, by omega, by go_num, HF.out, _, rfl⟩
        case measure => simp [intOf]; omega
    · obtain rfl : k = m := by omega
      have HF := Lib.hid (show hasB es ⟨a, b, c, d'⟩ = false by rw [← HA.out]; exact hno)
      clear hno
      go_wp2
      go_ret
      exact ⟨_, rfl, by rw [HF.out]; rfl, below_drewN hB0 _⟩
set_option maxRecDepth 4000 in
theorem containsE_any (w : World) {B : Option Addr} {m d : Nat} {es : List E} (h : ERd w B m es) (e : E) :
    Calls Tryz.prog 98 #[.slice B m d, .agg #[.int .i64 e.id, .int .i64 e.fr, .int .i64 e.to, .int .i64 e.lb]] w fun r w' => r = .returned (.bool (hasB es e)) ∧ Below w.heap.size w w' := by
  obtain ⟨a, b, c, d'⟩ := e
  have hB0 : Below w.heap.size w (w.alloc (.cells #[.int .i64 a, .int .i64 b, .int .i64 c, .int .i64 d'] 29)) := (Below.refl _ _).alloc (Nat.le_refl _) _
  go_enter Tryz.func98, Tryz.ntmps98
  go_wp2_with fail
  refine (slIdxE_any _ (h.up hB0) ⟨a, b, c, d'⟩).mono ?_
  rintro r w1 ⟨z, rfl, hz, hb1⟩
  have HZ := Lib.hid hz
  clear hz
  go_wp2
  go_ret
  exact ⟨by rw [← HZ.out] <;> rfl, below_then hB0 hb1⟩
theorem sorted_ids {g : G} (hv : validG g = true) : ∀ (j i : Nat) (x y : E), i < j → g.es[i]? = some x → g.es[j]? = some y → x.id < y.id := by
  have hord : ∀ k x y, g.es[k]? = some x → g.es[k + 1]? = some y → x.id < y.id := by
    intro k x y hx hy
    have hk := (List.getElem?_eq_some_iff.1 hy).1
    unfold validG at hv
    simp only [Bool.and_eq_true] at hv
    have := (edgesB_ok hv.1.1.2 hk hy).2
    simp only [ordE, hx, hy, decide_eq_true_eq] at this
    exact this
  intro j
  induction j with
  | zero => intro i x y h; omega
  | succ j ih =>
    intro i x y hij hx hy
    rcases Nat.lt_or_ge i j with h | h
    · have hj := (List.getElem?_eq_some_iff.1 hy).1
      obtain ⟨z, hz⟩ : ∃ z, g.es[j]? = some z := ⟨_, List.getElem?_eq_getElem (by omega)⟩
      have h1 := ih i x z h hx hz
      have h2 := hord j z y hz hy
      omega
    · obtain rfl : i = j := by omega
      exact hord i x y hx hy
theorem ixN_id {es : List E} {i : Int} {e : E} (h : es[ixN es i]? = some e) : e.id = i := by
  obtain ⟨hlt, he⟩ := List.getElem?_eq_some_iff.1 h
  have h3 := List.findIdx_getElem (w := (show List.findIdx (fun e : E => e.id == i) es < es.length from hlt))
  have h4 : (es[List.findIdx (fun e : E => e.id == i) es]'hlt) = e := he
  have h5 := eq_of_beq h3
  rw [← h4]
  exact h5
theorem ixN_of_mem {es : List E} {e : E} (h : e ∈ es) : ixN es e.id < es.length := List.findIdx_lt_length_of_exists ⟨e, h, by simp⟩
/-- In a valid graph an edge is found at its number's place, if at all. -/
theorem has_ix {g : G} (hv : validG g = true) (e : E) : (match g.es[ixN g.es e.id]? with | some x => decide (x = e) | none => false) = hasB g.es e := by
  unfold hasB
  cases hx : g.es[ixN g.es e.id]? with
  | none =>
    simp only
    symm
    rw [decide_eq_false_iff_not]
    intro hm
    have := ixN_of_mem hm
    rw [List.getElem?_eq_none_iff] at hx
    omega
  | some x =>
    simp only
    rw [decide_eq_decide]
    constructor
    · rintro rfl
      exact List.mem_of_getElem? hx
    · intro hm
      obtain ⟨j, hj, rfl⟩ := List.mem_iff_getElem.1 hm
      have hid := ixN_id hx
      have hj2 : g.es[j]? = some g.es[j] := List.getElem?_eq_getElem hj
      rcases Nat.lt_trichotomy (ixN g.es g.es[j].id) j with h | h | h
      · have := sorted_ids hv j _ _ _ h hx hj2; omega
      · rw [h, hj2] at hx; exact (Option.some.inj hx).symm
      · have := sorted_ids hv _ j _ _ h hj2 hx; omega
end Go.Proofs.YtljggmgijadjaaaGreatDoor
