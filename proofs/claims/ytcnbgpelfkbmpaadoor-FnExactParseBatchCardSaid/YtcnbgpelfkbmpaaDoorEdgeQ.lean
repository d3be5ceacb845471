/- eqEdge, eqEdgeS, eqGraph of equal things; szIntS, szEdgeS, szGraph. -/
import Derived.Test.YtcnbgpelfkbmpaaDoorEdge
namespace Go.Proofs.YtcnbgpelfkbmpaaDoor
open Go.RowKit Go.ChangeShapes Go.WideShapes Go.ChangeAt Go.Deep
set_option linter.unusedVariables false

set_option maxRecDepth 4000 in
theorem eqEdge_same (e : E) (w : World) : Calls Tryd.prog 45 #[.agg #[.int .i64 e.id, .int .i64 e.fr, .int .i64 e.to, .int .i64 e.lb], .agg #[.int .i64 e.id, .int .i64 e.fr, .int .i64 e.to, .int .i64 e.lb]] w fun r w' => r = .returned (.bool true) ∧ Below w.heap.size w w' := by
  obtain ⟨a, b, c, d⟩ := e
  go_enter Tryd.func45, Tryd.ntmps45
  go_wp2
  go_ret
  exact ⟨rfl, ((Below.refl _ _).alloc (Nat.le_refl _) _).alloc (by simp) _⟩
set_option maxRecDepth 4000 in
set_option maxHeartbeats 800000 in
theorem eqEdgeS_same (A B : Option Addr) (n c d : Nat) (es : List E) (w : World) (hl : es.length = n) (hn : n ≤ 2000000) (hr : Reads w w.heap.size 4 A n (ecs es)) (hr2 : Reads w w.heap.size 4 B n (ecs es)) :
    Calls Tryd.prog 103 #[.slice A n c, .slice B n d] w fun e w' => e = .returned (.bool true) ∧ Below w.heap.size w w' := by
  have hnn : ((n : Int) != n) = false := by simp
  go_enter Tryd.func103, Tryd.ntmps103
  go_wp2
  clear hnn
  go_loopw [5] (fun i wr => ∃ k : Nat, k ≤ n ∧ i = .int .i64 k ∧ Below w.heap.size w wr) (fun i _ => n - (intOf i).toNat)
  case atStart => exact ⟨0, Nat.zero_le _, rfl, Below.refl _ _⟩
  case round =>
    obtain ⟨k, hk, rfl, hbel⟩ := hrel
    by_cases hlt : k < n
    · obtain ⟨b, o, rfl, had, e, he, c0, c1, c2, c3⟩ := edge_at (hr.below hbel) hl hlt
      obtain ⟨b2, o2, rfl, had2, e2, he2, d0, d1, d2, d3⟩ := edge_at (hr2.below hbel) hl hlt
      obtain rfl : e = e2 := by rw [he] at he2; simpa using he2
      clear he he2
      have hlt' : (k : Int) < n := by omega
      have hk0 : (0 : Int) ≤ (k : Int) := by omega
      go_wp2
      go_still_tail 8, (by kernel_rfl)
      change wpList _ _ _ _ _ wr.drew
      have hbel2 : Below w.heap.size w wr.drew := hbel.drew
      generalize wr.drew = w2 at *
      go_wp2_with (go_at_call 45; refine (eqEdge_same _ _).mono ?_; rintro r w3 ⟨rfl, hb3⟩)
      go_roundw
      case rel => exact ⟨k + 1, by omega, by go_num, hbel2.trans (hb3.mono hbel2.size)⟩
      case measure => simp [intOf]; omega
    · go_wp2
      go_ret
      exact ⟨rfl, hbel⟩

set_option maxRecDepth 4000 in
set_option maxHeartbeats 800000 in
theorem eqGraph_same (A B A2 B2 : Option Addr) (n c m d c2 d2 : Nat) (g : G) (w : World) (hg : GReads w A n B m g) (hg2 : GReads w A2 n B2 m g) (hn : n ≤ 2000000) (hm : m ≤ 2000000) :
    Calls Tryd.prog 37 #[.agg #[.slice A n c, .slice B m d], .agg #[.slice A2 n c2, .slice B2 m d2]] w fun e w' => e = .returned (.bool true) ∧ Below w.heap.size w w' := by
  obtain ⟨ln, lm, rv, re⟩ := hg
  obtain ⟨_, _, rv2, re2⟩ := hg2
  go_enter Tryd.func37, Tryd.ntmps37
  go_wp2_with fail
  have hB0 : Below w.heap.size w ((w.alloc (.cells #[.slice A n c, .slice B m d] 56)).alloc (.cells #[.slice A2 n c2, .slice B2 m d2] 56)) := ((Below.refl _ _).alloc (Nat.le_refl _) _).alloc (by simp) _
  refine (eqIntS_any A A2 n c n c2 g.vs g.vs _ ln ln hn hn (reads_up rv hB0) (reads_up rv2 hB0)).mono ?_
  rw [eqB_refl]
  rintro e w1 ⟨rfl, hb1⟩
  have hB1 := below_then hB0 hb1
  obtain ⟨hc1, hf1⟩ := bcell hb1
  have hz0 : w.heap.size < w1.heap.size := by have := hb1.size; simp at this; omega
  have hz1 : w.heap.size + 1 < w1.heap.size := by have := hb1.size; simp at this; omega
  go_wp2_with fail
  refine (eqEdgeS_same B B2 m d d2 g.es _ lm hm (reads_up re hB1) (reads_up re2 hB1)).mono ?_
  rintro e w2 ⟨rfl, hb2⟩
  go_wp2
  go_ret
  exact ⟨rfl, below_then hB1 hb2⟩

def szI (l : Int) (n : Nat) : Int := if l - n < 0 then -1 else l - n
set_option maxRecDepth 4000 in
theorem szIntS_any (A : Option Addr) (n c : Nat) (l : Int) (w : World) (hn : n ≤ 9223372036854775807) (h0 : 0 ≤ l) (h1 : l ≤ 1048576) :
    Calls Tryd.prog 97 #[.slice A n c, .int .i64 l] w fun e w' => e = .returned (.int .i64 (szI l n)) ∧ w = w' := by
  by_cases h : l - n < 0
  · have hE : szI l n = -1 := if_pos h
    rw [hE]
    clear hE
    go_enter Tryd.func97, Tryd.ntmps97
    go_wp2
    go_ret
    exact ⟨rfl, rfl⟩
  · have hE : szI l n = l - n := if_neg h
    rw [hE]
    clear hE
    go_enter Tryd.func97, Tryd.ntmps97
    go_wp2
    go_ret
    exact ⟨rfl, rfl⟩
set_option maxRecDepth 4000 in
theorem szEdgeS_any (A : Option Addr) (n c : Nat) (l : Int) (w : World) (hn : n ≤ 9223372036854775807) (h0 : 0 ≤ l) (h1 : l ≤ 1048576) :
    Calls Tryd.prog 98 #[.slice A n c, .int .i64 l] w fun e w' => e = .returned (.int .i64 (szI l n)) ∧ w = w' := by
  by_cases h : l - n < 0
  · have hE : szI l n = -1 := if_pos h
    rw [hE]
    clear hE
    go_enter Tryd.func98, Tryd.ntmps98
    go_wp2
    go_ret
    exact ⟨rfl, rfl⟩
  · have hE : szI l n = l - n := if_neg h
    rw [hE]
    clear hE
    go_enter Tryd.func98, Tryd.ntmps98
    go_wp2
    go_ret
    exact ⟨rfl, rfl⟩
def szG (l : Int) (n m : Nat) : Int := if l - n < 0 then -1 else szI (l - n) m
theorem szG_ok {l : Int} {n m : Nat} (h : ¬ szG l n m < 0) : n + m ≤ l ∧ szG l n m = l - n - m ∧ 0 ≤ szG l n m ∧ szG l n m ≤ l := by
  unfold szG szI at *
  split at h
  · omega
  · split at h
    · omega
    · rw [if_neg (by assumption), if_neg (by assumption)]
      omega
set_option maxRecDepth 4000 in
set_option maxHeartbeats 800000 in
theorem szGraph_any (A B : Option Addr) (n c m d : Nat) (l : Int) (w : World) (hn : n ≤ 9223372036854775807) (hm : m ≤ 9223372036854775807) (h0 : 0 ≤ l) (h1 : l ≤ 1048576) :
    Calls Tryd.prog 33 #[.agg #[.slice A n c, .slice B m d], .int .i64 l] w fun e w' => e = .returned (.int .i64 (szG l n m)) ∧ Below w.heap.size w w' := by
  by_cases h : l - n < 0
  · have hE : szG l n m = -1 := if_pos h
    have hS : szI l n = -1 := if_pos h
    rw [hE]
    clear hE
    go_enter Tryd.func33, Tryd.ntmps33
    go_wp2_with (go_at_call 97; refine (szIntS_any _ _ _ _ _ hn h0 h1).mono ?_; rw [hS]; rintro e w' ⟨rfl, rfl⟩)
    go_ret
    exact ⟨rfl, (Below.refl _ _).alloc (Nat.le_refl _) _⟩
  · have hS : szI l n = l - n := if_neg h
    have hE : szG l n m = szI (l - n) m := if_neg h
    rw [hE]
    clear hE
    have hr : szI (l - n) m < 0 ∨ 0 ≤ szI (l - n) m := by omega
    have hr2 : szI (l - n) m < 0 → szI (l - n) m = -1 := by unfold szI; split <;> omega
    obtain ⟨q, hq⟩ : ∃ q, szI (l - n) m = q := ⟨_, rfl⟩
    rw [hq] at hr hr2 ⊢
    have HQ := Lib.hid hq
    have HS := Lib.hid hS
    clear hq hS
    rcases hr with hr | hr
    · obtain rfl := hr2 hr
      clear hr2
      go_enter Tryd.func33, Tryd.ntmps33
      go_wp2_with (first | (go_at_call 97; refine (szIntS_any _ _ _ _ _ hn h0 h1).mono ?_; rw [HS.out]; rintro e w' ⟨rfl, rfl⟩) | (go_at_call 98; refine (szEdgeS_any _ _ _ _ _ hm (by omega) (by omega)).mono ?_; rw [HQ.out]; rintro e w' ⟨rfl, rfl⟩))
      go_ret
      exact ⟨rfl, (Below.refl _ _).alloc (Nat.le_refl _) _⟩
    · clear hr2
      go_enter Tryd.func33, Tryd.ntmps33
      go_wp2_with (first | (go_at_call 97; refine (szIntS_any _ _ _ _ _ hn h0 h1).mono ?_; rw [HS.out]; rintro e w' ⟨rfl, rfl⟩) | (go_at_call 98; refine (szEdgeS_any _ _ _ _ _ hm (by omega) (by omega)).mono ?_; rw [HQ.out]; rintro e w' ⟨rfl, rfl⟩))
      go_ret
      exact ⟨rfl, (Below.refl _ _).alloc (Nat.le_refl _) _⟩

theorem GOwn.reads {w : World} {base b1 b2 n m c d : Nat} {g : G} (h : GOwn w base (.slice (some ⟨b1, 0, none⟩) n c) (.slice (some ⟨b2, 0, none⟩) m d) g) (ln : g.vs.length = n) (lm : g.es.length = m) : GReads w (some ⟨b1, 0, none⟩) n (some ⟨b2, 0, none⟩) m g := by
  obtain ⟨h1, h2⟩ := h
  rw [ln] at h1
  rw [lm] at h2
  exact ⟨ln, lm, Reads.of_own h1, Reads.of_own h2⟩
theorem GReads.drew {w : World} {A B : Option Addr} {n m : Nat} {g : G} (h : GReads w A n B m g) : GReads w.drew A n B m g := ⟨h.ln, h.lm, h.rv, h.re⟩
theorem toGraph_r (A B : Option Addr) (n c m d : Nat) (g : G) (w : World) (hg : GReads w A n B m g) (hn : n ≤ 2000000) (hm : m ≤ 2000000) :
    Calls Tryd.prog 35 #[.agg #[.slice A n c, .slice B m d]] w fun e w' => ∃ b1 b2, e = .returned (.agg #[.slice (some ⟨b1, 0, none⟩) n n, .slice (some ⟨b2, 0, none⟩) m m]) ∧ GOwn w' w.heap.size (.slice (some ⟨b1, 0, none⟩) n n) (.slice (some ⟨b2, 0, none⟩) m m) g ∧ GReads w' (some ⟨b1, 0, none⟩) n (some ⟨b2, 0, none⟩) m g ∧ Below w.heap.size w w' :=
  (toGraph_any A B n c m d g w hg hn hm).mono fun e w' ⟨b1, b2, h1, h2, h3⟩ => ⟨b1, b2, h1, h2, h2.reads hg.ln hg.lm, h3⟩
/-- What the walk is told of a graph that came in. -/
def ArgGraph (w : World) (v : Value) : Prop :=
  ∃ (A B : Option Addr) (n c m d : Nat) (g : G), v = .agg #[.slice A n c, .slice B m d] ∧ GReads w A n B m g ∧ n ≤ 9223372036854775807 ∧ m ≤ 9223372036854775807 ∧ (∀ x ∈ g.vs, (Lit.int .i64 x).wf = true) ∧
    (∀ e ∈ g.es, (Lit.int .i64 e.id).wf = true ∧ (Lit.int .i64 e.fr).wf = true ∧ (Lit.int .i64 e.to).wf = true ∧ (Lit.int .i64 e.lb).wf = true)
end Go.Proofs.YtcnbgpelfkbmpaaDoor
