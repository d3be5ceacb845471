/- eqEdge, eqEdgeS, eqGraph of equal things; szIntS, szEdgeS, szGraph. -/
import Derived.Test.YtljggmgijadjaaaDoorEdge
namespace Go.Proofs.YtljggmgijadjaaaDoor
open Go.RowKit Go.ChangeShapes Go.WideShapes Go.ChangeAt Go.Deep
set_option linter.unusedVariables false

set_option maxRecDepth 4000 in
theorem eqEdge_same (e : E) (w : World) : Calls Tryd.prog 80 #[.agg #[.int .i64 e.id, .int .i64 e.fr, .int .i64 e.to, .int .i64 e.lb], .agg #[.int .i64 e.id, .int .i64 e.fr, .int .i64 e.to, .int .i64 e.lb]] w fun r w' => r = .returned (.bool true) ∧ Below w.heap.size w w' := by
  obtain ⟨a, b, c, d⟩ := e
  go_enter Tryd.func80, Tryd.ntmps80
  go_wp2
  go_ret
  exact ⟨rfl, ((Below.refl _ _).alloc (Nat.le_refl _) _).alloc (by simp) _⟩
set_option maxRecDepth 4000 in
set_option maxHeartbeats 800000 in
theorem eqEdgeS_same (A B : Option Addr) (n c d : Nat) (es : List E) (w : World) (hl : es.length = n) (hn : n ≤ 2000000) (hr : Reads w w.heap.size 4 A n (ecs es)) (hr2 : Reads w w.heap.size 4 B n (ecs es)) :
    Calls Tryd.prog 49 #[.slice A n c, .slice B n d] w fun e w' => e = .returned (.bool true) ∧ Below w.heap.size w w' := by
  have hnn : ((n : Int) != n) = false := by simp
  go_enter Tryd.func49, Tryd.ntmps49
  go_wp2
  clear hnn
  go_loopw [5] (fun i wr => ∃ k : Nat, k ≤ n ∧ i = .int .i64 k ∧ Below w.heap.size w wr) (fun i _ => n - (intOf i).toNat)
  case atStart => exact ⟨0, Nat.zero_le _, rfl, Below.refl _ _⟩
  case round =>
    obtain ⟨k, hk, rfl, hbel⟩ := hrel
    by_cases hlt : k < n
    · obtain ⟨b, o, rfl, had, e, he, c0, c1, c2, c3⟩ := edge_at (hr.below hbel) hl hlt
      obtain ⟨b2, o2, rfl, had2, e2, he2, d0, d1, d2, d3⟩ := edge_at (hr2.below hbel) hl hlt
      obtain rfl : e = e2 := by rw [he] at he2; simpa using he2
      clear he he2
      have hlt' : (k : Int) < n := by omega
      have hk0 : (0 : Int) ≤ (k : Int) := by omega
      go_wp2
      go_still_tail 8, (by kernel_rfl)
      change wpList _ _ _ _ _ wr.drew
      have hbel2 : Below w.heap.size w wr.drew := hbel.drew
      generalize wr.drew = w2 at *
      go_wp2_with (go_at_call 80; refine (eqEdge_same _ _).mono ?_; rintro r w3 ⟨rfl, hb3⟩)
      go_roundw
      case rel => exact ⟨k + 1, by omega, by go_num, hbel2.trans (hb3.mono hbel2.size)⟩
      case measure => simp [intOf]; omega
    · go_wp2
      go_ret
      exact ⟨rfl, hbel⟩

set_option maxRecDepth 4000 in
set_option maxHeartbeats 800000 in
theorem eqGraph_same (A B A2 B2 : Option Addr) (n c m d c2 d2 : Nat) (g : G) (w : World) (hg : GReads w A n B m g) (hg2 : GReads w A2 n B2 m g) (hn : n ≤ 2000000) (hm : m ≤ 2000000) :
    Calls Tryd.prog 8 #[.agg #[.slice A n c, .slice B m d], .agg #[.slice A2 n c2, .slice B2 m d2]] w fun e w' => e = .returned (.bool true) ∧ Below w.heap.size w w' := by
  obtain ⟨ln, lm, rv, re⟩ := hg
  obtain ⟨_, _, rv2, re2⟩ := hg2
  go_enter Tryd.func8, Tryd.ntmps8
  go_wp2_with fail
  have hB0 : Below w.heap.size w ((w.alloc (.cells #[.slice A n c, .slice B m d] 25)).alloc (.cells #[.slice A2 n c2, .slice B2 m d2] 25)) := ((Below.refl _ _).alloc (Nat.le_refl _) _).alloc (by simp) _
  refine (eqIntS_any A A2 n c n c2 g.vs g.vs _ ln ln hn hn (reads_up rv hB0) (reads_up rv2 hB0)).mono ?_
  rw [eqB_refl]
  rintro e w1 ⟨rfl, hb1⟩
  have hB1 := below_then hB0 hb1
  obtain ⟨hc1, hf1⟩ := bcell hb1
  have hz0 : w.heap.size < w1.heap.size := by have := hb1.size; simp at this; omega
  have hz1 : w.heap.size + 1 < w1.heap.size := by have := hb1.size; simp at this; omega
  go_wp2_with fail
  refine (eqEdgeS_same B B2 m d d2 g.es _ lm hm (reads_up re hB1) (reads_up re2 hB1)).mono ?_
  rintro e w2 ⟨rfl, hb2⟩
  go_wp2
  go_ret
  exact ⟨rfl, below_then hB1 hb2⟩

def szI (l : Int) (n : Nat) : Int := if l - n < 0 then -1 else l - n
def szG (l : Int) (n m : Nat) : Int := if l - n < 0 then -1 else szI (l - n) m
theorem szG_ok {l : Int} {n m : Nat} (h : ¬ szG l n m < 0) : n + m ≤ l ∧ szG l n m = l - n - m ∧ 0 ≤ szG l n m ∧ szG l n m ≤ l := by
  unfold szG szI at *
  split at h
  · omega
  · split at h
    · omega
    · rw [if_neg (by assumption), if_neg (by assumption)]
      omega
theorem GOwn.reads {w : World} {base b1 b2 n m c d : Nat} {g : G} (h : GOwn w base (.slice (some ⟨b1, 0, none⟩) n c) (.slice (some ⟨b2, 0, none⟩) m d) g) (ln : g.vs.length = n) (lm : g.es.length = m) : GReads w (some ⟨b1, 0, none⟩) n (some ⟨b2, 0, none⟩) m g := by
  obtain ⟨h1, h2⟩ := h
  rw [ln] at h1
  rw [lm] at h2
  exact ⟨ln, lm, Reads.of_own h1, Reads.of_own h2⟩
theorem GReads.drew {w : World} {A B : Option Addr} {n m : Nat} {g : G} (h : GReads w A n B m g) : GReads w.drew A n B m g := ⟨h.ln, h.lm, h.rv, h.re⟩
/-- What the walk is told of a graph that came in. -/
def ArgGraph (w : World) (v : Value) : Prop :=
  ∃ (A B : Option Addr) (n c m d : Nat) (g : G), v = .agg #[.slice A n c, .slice B m d] ∧ GReads w A n B m g ∧ n ≤ 9223372036854775807 ∧ m ≤ 9223372036854775807 ∧ (∀ x ∈ g.vs, (Lit.int .i64 x).wf = true) ∧
    (∀ e ∈ g.es, (Lit.int .i64 e.id).wf = true ∧ (Lit.int .i64 e.fr).wf = true ∧ (Lit.int .i64 e.to).wf = true ∧ (Lit.int .i64 e.lb).wf = true)
end Go.Proofs.YtljggmgijadjaaaDoor
