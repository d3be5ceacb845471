/- Values that a call made, one form for every type: to, eq, sz, mark, held. Arguments opened: walks, batches, steps, edges. -/
import Derived.Test.YtcnbgpelfkbmpaaDoorMk
namespace Go.Proofs.YtcnbgpelfkbmpaaDoor
open Go.RowKit Go.ChangeShapes Go.WideShapes Go.ChangeAt Go.Deep
set_option linter.unusedVariables false

/-- A slice of the call's own in [lo, hi). -/
structure RIs (w : World) (lo hi : Nat) (e : TypeId) (size : Nat) (A : Option Addr) (n c : Nat) (xs : List Value) : Prop where
  own : OwnIn w lo hi e size (.slice A n c) n xs
  bd : n ≤ 2000000
section
variable {w w' W : World} {lo hi a b : Nat} {e e' : TypeId} {size size' n m c d : Nat} {A B : Option Addr} {xs ys : List Value}
theorem RIs.below (h : RIs w a b e size A n c xs) (hb : Below w.heap.size w w') : RIs w' a b e size A n c xs := ⟨h.own.below hb, h.bd⟩
theorem RIs.tch (h : RIs w a b e size A n c xs) (t : Tch lo hi w w') (hd : b ≤ lo ∨ hi ≤ a) : RIs w' a b e size A n c xs := ⟨h.own.tch t hd, h.bd⟩
theorem RIs.reads (h : RIs w a b e size A n c xs) : Reads w w.heap.size size A n xs := h.own.reads
theorem RIs.len (h : RIs w a b e size A n c xs) : xs.length = n * size := h.own.row.1
theorem RIs.of (h : w.ownsRow lo e size (.slice A n c) n xs) (bd : n ≤ 2000000) : RIs w lo w.heap.size e size A n c xs := ⟨OwnIn.of h, bd⟩
theorem RIs.wide (h : RIs w a b e size A n c xs) (h1 : lo ≤ a) (h2 : b ≤ hi) : RIs w lo hi e size A n c xs := ⟨⟨own_rebase h.own.row h1, fun g hg => Nat.lt_of_lt_of_le (h.own.top g hg) h2⟩, h.bd⟩
theorem own_ne {u v : Value} (h : w.ownsRow a e size u n xs) (k : w.ownsRow b e' size' v m ys) (hne : e ≠ e') : ∀ g, u.ownBlock = some g → v.ownBlock ≠ some g := by
  intro g hg hg2
  rcases h.2 with ⟨rfl, _⟩ | ⟨g1, cap, cur, rfl, _, hh, _⟩
  · simp [Value.ownBlock] at hg
  · rcases k.2 with ⟨rfl, _⟩ | ⟨g2, cap2, cur2, rfl, _, hh2, _⟩
    · simp [Value.ownBlock] at hg2
    · have h1 : g1 = g := by simpa [Value.ownBlock] using hg
      have h2 : g2 = g := by simpa [Value.ownBlock] using hg2
      subst h1
      subst h2
      rw [hh] at hh2
      injection hh2 with hh2
      injection hh2 with _ ht
      exact hne ht
end
/-- A graph of the call's own in [lo, hi). -/
structure GIs (w : World) (lo hi : Nat) (A : Option Addr) (n c : Nat) (B : Option Addr) (m d : Nat) (xs ys : List Value) : Prop where
  ou : RIs w lo hi 3 1 A n c xs
  ov : RIs w lo hi 35 4 B m d ys
section
variable {w w' W : World} {lo hi a b : Nat} {n m c d : Nat} {A B : Option Addr} {xs ys : List Value}
theorem GIs.below (h : GIs w a b A n c B m d xs ys) (hb : Below w.heap.size w w') : GIs w' a b A n c B m d xs ys := ⟨h.ou.below hb, h.ov.below hb⟩
theorem GIs.tch (h : GIs w a b A n c B m d xs ys) (t : Tch lo hi w w') (hd : b ≤ lo ∨ hi ≤ a) : GIs w' a b A n c B m d xs ys := ⟨h.ou.tch t hd, h.ov.tch t hd⟩
theorem GIs.gin (h : GIs w a b A n c B m d xs ys) : GIn w a b (.slice A n c) (.slice B m d) n m xs ys := ⟨h.ou.own, h.ov.own, own_ne h.ou.own.row h.ov.own.row (by decide)⟩
theorem GIs.greads {g : G} (h : GIs w a b A n c B m d (g.vs.map iv) (ecs g.es)) : GReads w A n B m g := h.gin.greads
theorem GIs.wide (h : GIs w a b A n c B m d xs ys) (h1 : lo ≤ a) (h2 : b ≤ hi) : GIs w lo hi A n c B m d xs ys := ⟨h.ou.wide h1 h2, h.ov.wide h1 h2⟩
end
/-- What GOwn says, with the two slices' parts named. -/
theorem gis_of {w : World} {base : Nat} {u v : Value} {g : G} (h : GOwn w base u v g) (h1 : g.vs.length ≤ 2000000) (h2 : g.es.length ≤ 2000000) :
    ∃ A c B d, u = .slice A g.vs.length c ∧ v = .slice B g.es.length d ∧ GIs w base w.heap.size A g.vs.length c B g.es.length d (g.vs.map iv) (ecs g.es) := by
  obtain ⟨ov, oe⟩ := h
  obtain ⟨A, c, rfl, _⟩ := own_form ov
  obtain ⟨B, d, rfl, _⟩ := own_form oe
  exact ⟨A, c, B, d, rfl, rfl, RIs.of ov h1, RIs.of oe h2⟩

section
variable (w : World)
theorem toInts_is (A : Option Addr) (n c : Nat) (xs : List Int) (hl : xs.length = n) (hn : n ≤ 2000000) (hr : Reads w w.heap.size 1 A n (xs.map iv)) :
    Calls Tryd.prog 100 #[.slice A n c] w fun e w' => ∃ A2, e = .returned (.slice A2 n n) ∧ RIs w' w.heap.size w'.heap.size 3 1 A2 n n (xs.map iv) ∧ Below w.heap.size w w' :=
  (toIntS_any A n c xs w hl hn hr).mono fun e w' ⟨h1, h2, h3⟩ => ⟨_, h1, RIs.of h2 hn, h3⟩
theorem eqInts_is {lo hi lo2 hi2 : Nat} {A B : Option Addr} {n c m d : Nat} {xs : List Int} (h : RIs w lo hi 3 1 A n c (xs.map iv)) (k : RIs w lo2 hi2 3 1 B m d (xs.map iv)) :
    Calls Tryd.prog 18 #[.slice A n c, .slice B m d] w fun e w' => e = .returned (.bool true) ∧ Below w.heap.size w w' := by
  have h1 : xs.length = n := by simpa using h.len
  have h2 : xs.length = m := by simpa using k.len
  have := eqIntS_any A B n c m d xs xs w h1 h2 h.bd k.bd h.reads k.reads
  rwa [eqB_refl] at this
theorem markInts_is {lo hi : Nat} {A : Option Addr} {n c : Nat} {xs : List Value} (k : Nat) (h : RIs w lo hi 3 1 A n c xs) (hk : k ≤ 50000000) (h1 : lo ≤ hi) (h2 : hi ≤ w.heap.size) :
    Calls Tryd.prog 19 #[.slice A n c, .int .i64 k] w fun e w' => e = .returned (.int .i64 ((k + n : Nat) : Int)) ∧ RIs w' lo hi 3 1 A n c ((marks k n).map iv) ∧ Tch lo hi w w' :=
  (markIntS_in _ n k lo hi xs w h.bd (by omega) h.own (by omega)).mono fun e w' ⟨a, b, t⟩ => ⟨a, ⟨b, h.bd⟩, t⟩
theorem heldInts_is {lo hi : Nat} {A : Option Addr} {n c : Nat} (k : Nat) (h : RIs w lo hi 3 1 A n c ((marks k n).map iv)) (hk : k ≤ 50000000) :
    Calls Tryd.prog 20 #[.slice A n c, .int .i64 k] w fun e w' => e = .returned (.int .i64 ((k + n : Nat) : Int)) ∧ Below w.heap.size w w' :=
  heldIntS_any A n c k w h.bd (by omega) h.reads
theorem eqStepS_is {lo hi lo2 hi2 : Nat} {A B : Option Addr} {n c m d : Nat} {l : List St} (h : RIs w lo hi 113 2 A n c (stcs l)) (k : RIs w lo2 hi2 113 2 B m d (stcs l)) :
    Calls Tryd.prog 96 #[.slice A n c, .slice B m d] w fun e w' => e = .returned (.bool true) ∧ Below w.heap.size w w' := by
  have h1 : l.length = n := by have := h.len; rw [stcs_len] at this; omega
  have h2 : l.length = m := by have := k.len; rw [stcs_len] at this; omega
  obtain rfl : n = m := by omega
  exact eqStepS_same A B n c d l w h1 h.bd h.reads k.reads
theorem markSteps_is {lo hi : Nat} {A : Option Addr} {n c : Nat} {xs : List Value} (k : Nat) (h : RIs w lo hi 113 2 A n c xs) (hk : k ≤ 50000000) (h1 : lo ≤ hi) (h2 : hi ≤ w.heap.size) :
    Calls Tryd.prog 111 #[.slice A n c, .int .i64 k] w fun e w' => e = .returned (.int .i64 ((k + n * 2 : Nat) : Int)) ∧ RIs w' lo hi 113 2 A n c (smarks k n) ∧ Tch lo hi w w' :=
  (markStepS_any _ n k lo xs w h.bd (by omega) (by omega) h.own.row).mono fun e w' ⟨a, b, g⟩ => ⟨a, ⟨⟨b, h.own.top⟩, h.bd⟩, Tch.of_grown g h.own⟩
theorem heldSteps_is {lo hi : Nat} {A : Option Addr} {n c : Nat} (k : Nat) (h : RIs w lo hi 113 2 A n c (smarks k n)) (hk : k ≤ 50000000) :
    Calls Tryd.prog 112 #[.slice A n c, .int .i64 k] w fun e w' => e = .returned (.int .i64 ((k + n * 2 : Nat) : Int)) ∧ Below w.heap.size w w' :=
  heldStepS_any A n c k w h.bd (by omega) h.reads
end
set_option maxRecDepth 4000
set_option maxHeartbeats 400000
section
variable (w : World)
theorem toWalk_is (s : Int) (A : Option Addr) (n c : Nat) (xs : List St) (hl : xs.length = n) (hn : n ≤ 2000000) (hr : Reads w w.heap.size 2 A n (stcs xs)) :
    Calls Tryd.prog 30 #[.agg #[.int .i64 s, .slice A n c]] w fun e w' => ∃ A2, e = .returned (.agg #[.int .i64 s, .slice A2 n n]) ∧ RIs w' w.heap.size w'.heap.size 113 2 A2 n n (stcs xs) ∧ Below w.heap.size w w' := by
  go_enter Tryd.func30, Tryd.ntmps30
  go_wp2_with fail
  have hB0 : Below w.heap.size w (((w.alloc (.cells #[.int .i64 s, .slice A n c] 40)).alloc (.cells #[.int .i64 0, .slice none 0 0] 45)).alloc (.cells #[.int .i64 s, .slice none 0 0] 45)) :=
    (((Below.refl _ _).alloc (Nat.le_refl _) _).alloc (by simp) _).alloc (by simp; omega) _
  refine (toStepS_any A n c xs _ hl hn (reads_up hr hB0)).mono ?_
  rintro e w1 ⟨rfl, ho1, hb1⟩
  have hB1 := below_then hB0 hb1
  obtain ⟨hc1, hf1⟩ := bcell hb1
  have hz1 : w.heap.size + 1 + 1 < w1.heap.size := by have := hb1.size; simp at this; omega
  have hz1b : w.heap.size + 1 < w1.heap.size := by omega
  have hz1a : w.heap.size < w1.heap.size := by omega
  go_wp2
  refine bodyPost_ret (v := .agg #[.int .i64 s, .slice (some ⟨w.heap.size + 1 + 1 + 1, 0, none⟩) n n]) ?_ rfl ?_
  · simp [results, Tryd.results30, go_sem]
    go_simp
  · refine ⟨_, rfl, ?_, ?_⟩
    · refine RIs.of ?_ hn
      refine own_rebase (base := w.heap.size + 1 + 1 + 1) ?_ (by omega)
      repeat (with_reducible refine ownsRow_setCell_below ?_ ?hb _; (case hb => dsimp only; omega))
      simp only [World.size_alloc] at ho1
      exact ho1
    · repeat (with_reducible refine Below.setCell ?_ ?hb _; (case hb => dsimp only; omega))
      exact hB1
theorem toBatch_is (A : Option Addr) (n c : Nat) (xs : List Cg) (hl : xs.length = n) (hn : n ≤ 2000000) (hr : Reads w w.heap.size 5 A n (cgcs xs)) :
    Calls Tryd.prog 40 #[.agg #[.slice A n c]] w fun e w' => ∃ A2, e = .returned (.agg #[.slice A2 n n]) ∧ RIs w' w.heap.size w'.heap.size 122 5 A2 n n (cgcs xs) ∧ Below w.heap.size w w' := by
  go_enter Tryd.func40, Tryd.ntmps40
  go_wp2_with fail
  have hB0 : Below w.heap.size w (((w.alloc (.cells #[.slice A n c] 62)).alloc (.cells #[.slice none 0 0] 67)).alloc (.cells #[.slice none 0 0] 67)) :=
    (((Below.refl _ _).alloc (Nat.le_refl _) _).alloc (by simp) _).alloc (by simp; omega) _
  refine (toChangeS_any A n c xs _ hl hn (reads_up hr hB0)).mono ?_
  rintro e w1 ⟨rfl, ho1, hb1⟩
  have hB1 := below_then hB0 hb1
  obtain ⟨hc1, hf1⟩ := bcell hb1
  have hz1 : w.heap.size + 1 + 1 < w1.heap.size := by have := hb1.size; simp at this; omega
  have hz1b : w.heap.size + 1 < w1.heap.size := by omega
  have hz1a : w.heap.size < w1.heap.size := by omega
  go_wp2
  refine bodyPost_ret (v := .agg #[.slice (some ⟨w.heap.size + 1 + 1 + 1, 0, none⟩) n n]) ?_ rfl ?_
  · simp [results, Tryd.results40, go_sem]
    go_simp
  · refine ⟨_, rfl, ?_, ?_⟩
    · refine RIs.of ?_ hn
      refine own_rebase (base := w.heap.size + 1 + 1 + 1) ?_ (by omega)
      repeat (with_reducible refine ownsRow_setCell_below ?_ ?hb _; (case hb => dsimp only; omega))
      simp only [World.size_alloc] at ho1
      exact ho1
    · repeat (with_reducible refine Below.setCell ?_ ?hb _; (case hb => dsimp only; omega))
      exact hB1
theorem toGraph_is (A B : Option Addr) (n c m d : Nat) (g : G) (hg : GReads w A n B m g) (hn : n ≤ 2000000) (hm : m ≤ 2000000) :
    Calls Tryd.prog 35 #[.agg #[.slice A n c, .slice B m d]] w fun e w' => ∃ A2 B2, e = .returned (.agg #[.slice A2 n n, .slice B2 m m]) ∧ GIs w' w.heap.size w'.heap.size A2 n n B2 m m (g.vs.map iv) (ecs g.es) ∧ Below w.heap.size w w' :=
  (toGraph_any A B n c m d g w hg hn hm).mono fun e w' ⟨b1, b2, h1, ⟨h2, h3⟩, h4⟩ => by
    rw [hg.ln] at h2
    rw [hg.lm] at h3
    exact ⟨_, _, h1, ⟨RIs.of h2 hn, RIs.of h3 hm⟩, h4⟩
theorem eqGraph_is {lo hi lo2 hi2 : Nat} {A B A2 B2 : Option Addr} {n c m d n2 c2 m2 d2 : Nat} {g : G} (h : GIs w lo hi A n c B m d (g.vs.map iv) (ecs g.es)) (k : GIs w lo2 hi2 A2 n2 c2 B2 m2 d2 (g.vs.map iv) (ecs g.es)) :
    Calls Tryd.prog 37 #[.agg #[.slice A n c, .slice B m d], .agg #[.slice A2 n2 c2, .slice B2 m2 d2]] w fun e w' => e = .returned (.bool true) ∧ Below w.heap.size w w' := by
  have hh := h.greads
  have hk := k.greads
  obtain rfl : n = n2 := by have := hh.ln; have := hk.ln; omega
  obtain rfl : m = m2 := by have := hh.lm; have := hk.lm; omega
  exact eqGraph_same A B A2 B2 n c m d c2 d2 g w hh hk h.ou.bd h.ov.bd
theorem markGraph_is {lo hi : Nat} {A B : Option Addr} {n c m d : Nat} {xs ys : List Value} (k : Nat) (h : GIs w lo hi A n c B m d xs ys) (hk : k ≤ 50000000) (h1 : lo ≤ hi) (h2 : hi ≤ w.heap.size) :
    Calls Tryd.prog 52 #[.agg #[.slice A n c, .slice B m d], .int .i64 k] w fun e w' => e = .returned (.int .i64 ((k + n + m * 4 : Nat) : Int)) ∧ GIs w' lo hi A n c B m d ((marks k n).map iv) ((marks (k + n) (m * 4)).map iv) ∧ Tch lo hi w w' :=
  (markGraph_in A B n c m d k lo hi xs ys w h.ou.bd h.ov.bd hk h.gin h1 h2).mono fun e w' ⟨a, b, t⟩ => ⟨a, ⟨⟨b.ou, h.ou.bd⟩, ⟨b.ov, h.ov.bd⟩⟩, t⟩
theorem heldGraph_is {lo hi : Nat} {A B : Option Addr} {n c m d : Nat} (k : Nat) (h : GIs w lo hi A n c B m d ((marks k n).map iv) ((marks (k + n) (m * 4)).map iv)) (hk : k ≤ 50000000) :
    Calls Tryd.prog 53 #[.agg #[.slice A n c, .slice B m d], .int .i64 k] w fun e w' => e = .returned (.int .i64 ((k + n + m * 4 : Nat) : Int)) ∧ Below w.heap.size w w' :=
  heldGraph_any A B n c m d k w h.ou.bd h.ov.bd hk h.ou.reads h.ov.reads
theorem eqWalk_is {lo hi lo2 hi2 : Nat} (s : Int) {A B : Option Addr} {n c m d : Nat} {l : List St} (h : RIs w lo hi 113 2 A n c (stcs l)) (k : RIs w lo2 hi2 113 2 B m d (stcs l)) :
    Calls Tryd.prog 32 #[.agg #[.int .i64 s, .slice A n c], .agg #[.int .i64 s, .slice B m d]] w fun e w' => e = .returned (.bool true) ∧ Below w.heap.size w w' := by
  have hss : (s != s) = false := by simp
  go_enter Tryd.func32, Tryd.ntmps32
  go_wp2_with fail
  have hB0 : Below w.heap.size w ((w.alloc (.cells #[.int .i64 s, .slice A n c] 45)).alloc (.cells #[.int .i64 s, .slice B m d] 45)) := ((Below.refl _ _).alloc (Nat.le_refl _) _).alloc (by simp) _
  refine (eqStepS_is _ (h.below hB0) (k.below hB0)).mono ?_
  rintro e w1 ⟨rfl, hb1⟩
  go_wp2
  go_ret
  exact ⟨rfl, below_then hB0 hb1⟩
theorem markWalk_is {lo hi : Nat} (s : Int) {A : Option Addr} {n c : Nat} {xs : List Value} (k : Nat) (h : RIs w lo hi 113 2 A n c xs) (hk : k ≤ 50000000) (h1 : lo ≤ hi) (h2 : hi ≤ w.heap.size) :
    Calls Tryd.prog 48 #[.agg #[.int .i64 s, .slice A n c], .int .i64 k] w fun e w' => e = .returned (.int .i64 ((k + n * 2 : Nat) : Int)) ∧ RIs w' lo hi 113 2 A n c (smarks k n) ∧ Tch lo hi w w' := by
  go_enter Tryd.func48, Tryd.ntmps48
  go_wp2_with fail
  have hB0 : Below w.heap.size w (w.alloc (.cells #[.int .i64 s, .slice A n c] 45)) := (Below.refl _ _).alloc (Nat.le_refl _) _
  refine (markSteps_is _ k (h.below hB0) hk h1 (by simp; omega)).mono ?_
  rintro e w1 ⟨rfl, ho, t⟩
  go_wp2
  go_ret
  exact ⟨rfl, ho, (Tch.of_below hB0).trans t⟩
theorem heldWalk_is {lo hi : Nat} (s : Int) {A : Option Addr} {n c : Nat} (k : Nat) (h : RIs w lo hi 113 2 A n c (smarks k n)) (hk : k ≤ 50000000) :
    Calls Tryd.prog 49 #[.agg #[.int .i64 s, .slice A n c], .int .i64 k] w fun e w' => e = .returned (.int .i64 ((k + n * 2 : Nat) : Int)) ∧ Below w.heap.size w w' := by
  go_enter Tryd.func49, Tryd.ntmps49
  go_wp2_with fail
  have hB0 : Below w.heap.size w (w.alloc (.cells #[.int .i64 s, .slice A n c] 45)) := (Below.refl _ _).alloc (Nat.le_refl _) _
  refine (heldSteps_is _ k (h.below hB0) hk).mono ?_
  rintro e w1 ⟨rfl, hb1⟩
  go_wp2
  go_ret
  exact ⟨rfl, below_then hB0 hb1⟩
theorem eqBatch_is {lo hi lo2 hi2 : Nat} {A B : Option Addr} {n c m d : Nat} {l : List Cg} (h : RIs w lo hi 122 5 A n c (cgcs l)) (k : RIs w lo2 hi2 122 5 B m d (cgcs l)) :
    Calls Tryd.prog 42 #[.agg #[.slice A n c], .agg #[.slice B m d]] w fun e w' => e = .returned (.bool true) ∧ Below w.heap.size w w' := by
  have h1 : l.length = n := by have := h.len; rw [cgcs_len] at this; omega
  have h2 : l.length = m := by have := k.len; rw [cgcs_len] at this; omega
  obtain rfl : n = m := by omega
  clear h2
  have HL := Lib.hid h1
  clear h1
  go_enter Tryd.func42, Tryd.ntmps42
  go_wp2_with fail
  have hB0 : Below w.heap.size w ((w.alloc (.cells #[.slice A n c] 67)).alloc (.cells #[.slice B n d] 67)) := ((Below.refl _ _).alloc (Nat.le_refl _) _).alloc (by simp) _
  refine (eqChangeS_same A B n c d l _ HL.out h.bd (h.below hB0).reads (k.below hB0).reads).mono ?_
  rintro e w1 ⟨rfl, hb1⟩
  go_wp2
  go_ret
  exact ⟨rfl, below_then hB0 hb1⟩
theorem markBatch_is {lo hi : Nat} {A : Option Addr} {n c : Nat} {xs : List Value} (k : Nat) (h : RIs w lo hi 122 5 A n c xs) (hk : k ≤ 50000000) (h1 : lo ≤ hi) (h2 : hi ≤ w.heap.size) :
    Calls Tryd.prog 56 #[.agg #[.slice A n c], .int .i64 k] w fun e w' => e = .returned (.int .i64 ((k + n * 5 : Nat) : Int)) ∧ RIs w' lo hi 122 5 A n c (cmarks k n) ∧ Tch lo hi w w' := by
  go_enter Tryd.func56, Tryd.ntmps56
  go_wp2_with fail
  have hB0 : Below w.heap.size w (w.alloc (.cells #[.slice A n c] 67)) := (Below.refl _ _).alloc (Nat.le_refl _) _
  have h' := h.below hB0
  refine (markChangeS_any _ n k lo xs _ h.bd (by omega) (by simp; omega) h'.own.row).mono ?_
  rintro e w1 ⟨rfl, ho, g⟩
  go_wp2
  go_ret
  exact ⟨rfl, ⟨⟨ho, h.own.top⟩, h.bd⟩, (Tch.of_below hB0).trans (Tch.of_grown g h'.own)⟩
theorem heldBatch_is {lo hi : Nat} {A : Option Addr} {n c : Nat} (k : Nat) (h : RIs w lo hi 122 5 A n c (cmarks k n)) (hk : k ≤ 50000000) :
    Calls Tryd.prog 57 #[.agg #[.slice A n c], .int .i64 k] w fun e w' => e = .returned (.int .i64 ((k + n * 5 : Nat) : Int)) ∧ Below w.heap.size w w' := by
  go_enter Tryd.func57, Tryd.ntmps57
  go_wp2_with fail
  have hB0 : Below w.heap.size w (w.alloc (.cells #[.slice A n c] 67)) := (Below.refl _ _).alloc (Nat.le_refl _) _
  refine (heldChangeS_any A n c k _ h.bd (by omega) (h.below hB0).reads).mono ?_
  rintro e w1 ⟨rfl, hb1⟩
  go_wp2
  go_ret
  exact ⟨rfl, below_then hB0 hb1⟩
end
end Go.Proofs.YtcnbgpelfkbmpaaDoor
