/- Arguments opened: walks, batches, steps, edges; their sizes. -/
import Derived.Test.YtcnbgpelfkbmpaaDoorIs
namespace Go.Proofs.YtcnbgpelfkbmpaaDoor
open Go.RowKit Go.ChangeShapes Go.WideShapes Go.ChangeAt Go.Deep
set_option linter.unusedVariables false
def ArgWalk (W : World) (v : Value) : Prop :=
  ∃ (A : Option Addr) (n c : Nat) (s : Int) (l : List St), v = .agg #[.int .i64 s, .slice A n c] ∧ l.length = n ∧ Reads W W.heap.size 2 A n (stcs l) ∧ n ≤ 9223372036854775807 ∧ (Lit.int .i64 s).wf = true ∧ ∀ x ∈ l, (Lit.int .i64 x.ed).wf = true
def ArgBatch (W : World) (v : Value) : Prop :=
  ∃ (A : Option Addr) (n c : Nat) (l : List Cg), v = .agg #[.slice A n c] ∧ l.length = n ∧ Reads W W.heap.size 5 A n (cgcs l) ∧ n ≤ 9223372036854775807 ∧ ∀ x ∈ l, wfE x.e
def ArgStep (W : World) (v : Value) : Prop := ∃ s : St, v = .agg #[.int .i64 s.ed, .bool s.inv] ∧ (Lit.int .i64 s.ed).wf = true
def ArgEdge (W : World) (v : Value) : Prop := ∃ e : E, v = .agg #[.int .i64 e.id, .int .i64 e.fr, .int .i64 e.to, .int .i64 e.lb] ∧ wfE e
section
variable {H : Type} {enc : TypeId × Value → H} {W : World} {base : Nat} {spare : Nat → Bool} {held : Bool}
theorem ci_bool : Tryd.prog.cellsOf 4 = 1 := by kernel_rfl
theorem ci_step : Tryd.prog.cellsOf 145 = 2 := by kernel_rfl
theorem ci_change : Tryd.prog.cellsOf 150 = 5 := by kernel_rfl
theorem ci_walk : Tryd.prog.cellsOf 40 = 2 := by kernel_rfl
theorem ci_batch : Tryd.prog.cellsOf 62 = 1 := by kernel_rfl
theorem ci_schg : Tryd.prog.cellsOf 60 = 1 := by kernel_rfl
set_option maxRecDepth 100000 in
theorem decSt (n : Nat) (cs : List Value) (y : DataW H × List MemPlace) (h : DataW.trod enc Tryd.prog W base spare held n 145 cs = some y) : ∃ s : St, cs = stc s ∧ (Lit.int .i64 s.ed).wf = true := by
  obtain ⟨xs, n', _, _, hl, hlen, hf⟩ := DataW.trod_struct Tryd.underlying145 h
  rw [ci_step] at hl
  match cs, hl with
  | [c0, c1], _ =>
    match xs, hlen with
    | [x0, x1], _ =>
      have h0 := hf 0 _ rfl
      have h1 := hf 1 _ rfl
      simp [ci_int, ci_bool] at h0 h1
      obtain ⟨a, e0, _, w0⟩ := DataW.trod_int Tryd.underlying3 h0
      obtain ⟨b, e1, _⟩ := DataW.trod_bool Tryd.underlying4 h1
      simp at e0 e1
      exact ⟨⟨a, b⟩, by simp [stc, e0, e1], w0⟩
set_option maxRecDepth 100000 in
theorem decCg (n : Nat) (cs : List Value) (y : DataW H × List MemPlace) (h : DataW.trod enc Tryd.prog W base spare held n 150 cs = some y) : ∃ s : Cg, cs = cgc s ∧ wfE s.e := by
  obtain ⟨xs, n', _, _, hl, hlen, hf⟩ := DataW.trod_struct Tryd.underlying150 h
  rw [ci_change] at hl
  match cs, hl with
  | [c0, c1, c2, c3, c4], _ =>
    match xs, hlen with
    | [x0, x1], _ =>
      have h0 := hf 0 _ rfl
      have h1 := hf 1 _ rfl
      simp [ci_bool, ci_edge] at h0 h1
      obtain ⟨b, e0, _⟩ := DataW.trod_bool Tryd.underlying4 h0
      obtain ⟨e, e1, we⟩ := decE _ _ _ h1
      simp [ec] at e0 e1
      obtain ⟨e1, e2, e3, e4⟩ := e1
      exact ⟨⟨b, e⟩, by simp [cgc, e0, e1, e2, e3, e4], we⟩
set_option maxRecDepth 100000 in
theorem argStep {b0 : Nat} {r : Reach} {v : Value} {d : DataW H} {p : List MemPlace} (hv : Value.okWide Tryd.prog W r b0 145 v) (h : DataW.Trod enc Tryd.prog W base spare held 145 v d p) : ArgStep W v := by
  obtain ⟨v0, v1, y0, y1, n, rfl, _, _, h0, h1⟩ := Joins.open_agg2 Tryd.underlying145 (by kernel_rfl) ci_step hv h
  obtain ⟨a, e0, _, w0⟩ := DataW.trod_int Tryd.underlying3 h0
  obtain ⟨b, e1, _⟩ := DataW.trod_bool Tryd.underlying4 h1
  simp at e0 e1
  subst e0
  subst e1
  exact ⟨⟨a, b⟩, rfl, w0⟩
set_option maxRecDepth 100000 in
theorem argEdge {b0 : Nat} {r : Reach} {v : Value} {d : DataW H} {p : List MemPlace} (hv : Value.okWide Tryd.prog W r b0 33 v) (h : DataW.Trod enc Tryd.prog W base spare held 33 v d p) : ArgEdge W v := by
  obtain ⟨cs, rfl, hsz⟩ := okWide_struct Tryd.underlying33 hv
  obtain ⟨fuel, hf⟩ := h
  obtain ⟨e, he, we⟩ := decE _ _ _ hf
  have : cs = #[.int .i64 e.id, .int .i64 e.fr, .int .i64 e.to, .int .i64 e.lb] := by
    have h1 : cs.toList = ec e := he
    rw [← Array.toArray_toList (xs := cs), h1]
    rfl
  exact ⟨e, by rw [this], we⟩
set_option maxRecDepth 100000 in
theorem argWalk {b0 : Nat} {r : Reach} {v : Value} {d : DataW H} {p : List MemPlace} (hv : Value.okWide Tryd.prog W r b0 40 v) (h : DataW.Trod enc Tryd.prog W base spare held 40 v d p) : ArgWalk W v := by
  obtain ⟨v0, v1, y0, y1, n, rfl, _, _, h0, h1⟩ := Joins.open_agg2 Tryd.underlying40 (by kernel_rfl) ci_walk hv h
  obtain ⟨a, e0, _, w0⟩ := DataW.trod_int Tryd.underlying3 h0
  obtain ⟨A, n1, c1, xs, rfl, l1, k1, m1, r1, w1⟩ := argRow_of (W := W) stc (fun x => (Lit.int .i64 x.ed).wf = true) (size := 2) stc_len (by decide) Tryd.underlying38 ci_step decSt h1
  simp at e0
  subst e0
  unfold maxLen at m1
  exact ⟨A, n1, c1, a, xs, rfl, l1, r1, by omega, w0, w1⟩
set_option maxRecDepth 100000 in
theorem argBatch {b0 : Nat} {r : Reach} {v : Value} {d : DataW H} {p : List MemPlace} (hv : Value.okWide Tryd.prog W r b0 62 v) (h : DataW.Trod enc Tryd.prog W base spare held 62 v d p) : ArgBatch W v := by
  obtain ⟨cs, rfl, hsz⟩ := okWide_struct Tryd.underlying62 hv
  obtain ⟨fuel, hf⟩ := h
  obtain ⟨xs, n', _, _, hl, hlen, hff⟩ := DataW.trod_struct Tryd.underlying62 hf
  rw [ci_batch] at hsz
  obtain ⟨v0, rfl⟩ : ∃ v0, cs = #[v0] := by
    obtain ⟨l⟩ := cs
    match l, hsz with
    | [c0], _ => exact ⟨c0, rfl⟩
  match xs, hlen with
  | [x0], _ =>
    have h0 := hff 0 _ rfl
    simp [ci_schg, Value.cells] at h0
    obtain ⟨A, n1, c1, xs, rfl, l1, k1, m1, r1, w1⟩ := argRow_of (W := W) cgc (fun x => wfE x.e) (size := 5) cgc_len (by decide) Tryd.underlying60 ci_change decCg h0
    unfold maxLen at m1
    exact ⟨A, n1, c1, xs, rfl, l1, r1, by omega, w1⟩
end
theorem szI_ok {l : Int} {n : Nat} (h : ¬ szI l n < 0) : n ≤ l ∧ 0 ≤ szI l n ∧ szI l n ≤ l := by
  unfold szI at *
  split at h
  · omega
  · rw [if_neg (by assumption)]
    omega
theorem szG_ok3 {l : Int} {n m : Nat} (h : ¬ szG l n m < 0) : n + m ≤ l ∧ 0 ≤ szG l n m ∧ szG l n m ≤ l := by
  obtain ⟨h1, _, h2, h3⟩ := szG_ok h
  exact ⟨h1, h2, h3⟩
set_option maxRecDepth 4000 in
theorem szStepS_any (A : Option Addr) (n c : Nat) (l : Int) (w : World) (hn : n ≤ 9223372036854775807) (h0 : 0 ≤ l) (h1 : l ≤ 1048576) :
    Calls Tryd.prog 94 #[.slice A n c, .int .i64 l] w fun e w' => e = .returned (.int .i64 (szI l n)) ∧ w = w' := by
  by_cases h : l - n < 0
  · have hE : szI l n = -1 := if_pos h
    rw [hE]
    clear hE
    go_enter Tryd.func94, Tryd.ntmps94
    go_wp2
    go_ret
    exact ⟨rfl, rfl⟩
  · have hE : szI l n = l - n := if_neg h
    rw [hE]
    clear hE
    go_enter Tryd.func94, Tryd.ntmps94
    go_wp2
    go_ret
    exact ⟨rfl, rfl⟩
set_option maxRecDepth 4000 in
theorem szChangeS_any (A : Option Addr) (n c : Nat) (l : Int) (w : World) (hn : n ≤ 9223372036854775807) (h0 : 0 ≤ l) (h1 : l ≤ 1048576) :
    Calls Tryd.prog 104 #[.slice A n c, .int .i64 l] w fun e w' => e = .returned (.int .i64 (szI l n)) ∧ w = w' := by
  by_cases h : l - n < 0
  · have hE : szI l n = -1 := if_pos h
    rw [hE]
    clear hE
    go_enter Tryd.func104, Tryd.ntmps104
    go_wp2
    go_ret
    exact ⟨rfl, rfl⟩
  · have hE : szI l n = l - n := if_neg h
    rw [hE]
    clear hE
    go_enter Tryd.func104, Tryd.ntmps104
    go_wp2
    go_ret
    exact ⟨rfl, rfl⟩
theorem szI_neg (l : Int) (n : Nat) : szI l n < 0 → szI l n = -1 := by unfold szI; split <;> omega
set_option maxRecDepth 4000 in
theorem szWalk_any (s : Int) (A : Option Addr) (n c : Nat) (l : Int) (w : World) (hn : n ≤ 9223372036854775807) (h0 : 0 ≤ l) (h1 : l ≤ 1048576) :
    Calls Tryd.prog 28 #[.agg #[.int .i64 s, .slice A n c], .int .i64 l] w fun e w' => e = .returned (.int .i64 (szI l n)) ∧ Below w.heap.size w w' := by
  have hs := szStepS_any A n c l
  have hneg := szI_neg l n
  obtain ⟨q, hq⟩ : ∃ q, szI l n = q := ⟨_, rfl⟩
  rw [hq] at hs hneg ⊢
  clear hq
  have HS := Lib.hid hs
  clear hs
  by_cases h : q < 0
  · obtain rfl := hneg h
    clear hneg
    go_enter Tryd.func28, Tryd.ntmps28
    go_wp2_with (go_at_call 94; refine (HS.out _ hn h0 h1).mono ?_; rintro e w' ⟨rfl, rfl⟩)
    go_ret
    exact ⟨rfl, (Below.refl _ _).alloc (Nat.le_refl _) _⟩
  · clear hneg
    go_enter Tryd.func28, Tryd.ntmps28
    go_wp2_with (go_at_call 94; refine (HS.out _ hn h0 h1).mono ?_; rintro e w' ⟨rfl, rfl⟩)
    go_ret
    exact ⟨rfl, (Below.refl _ _).alloc (Nat.le_refl _) _⟩
set_option maxRecDepth 4000 in
theorem szBatch_any (A : Option Addr) (n c : Nat) (l : Int) (w : World) (hn : n ≤ 9223372036854775807) (h0 : 0 ≤ l) (h1 : l ≤ 1048576) :
    Calls Tryd.prog 38 #[.agg #[.slice A n c], .int .i64 l] w fun e w' => e = .returned (.int .i64 (szI l n)) ∧ Below w.heap.size w w' := by
  have hs := szChangeS_any A n c l
  have hneg := szI_neg l n
  obtain ⟨q, hq⟩ : ∃ q, szI l n = q := ⟨_, rfl⟩
  rw [hq] at hs hneg ⊢
  clear hq
  have HS := Lib.hid hs
  clear hs
  by_cases h : q < 0
  · obtain rfl := hneg h
    clear hneg
    go_enter Tryd.func38, Tryd.ntmps38
    go_wp2_with (go_at_call 104; refine (HS.out _ hn h0 h1).mono ?_; rintro e w' ⟨rfl, rfl⟩)
    go_ret
    exact ⟨rfl, (Below.refl _ _).alloc (Nat.le_refl _) _⟩
  · clear hneg
    go_enter Tryd.func38, Tryd.ntmps38
    go_wp2_with (go_at_call 104; refine (HS.out _ hn h0 h1).mono ?_; rintro e w' ⟨rfl, rfl⟩)
    go_ret
    exact ⟨rfl, (Below.refl _ _).alloc (Nat.le_refl _) _⟩
end Go.Proofs.YtcnbgpelfkbmpaaDoor
