/- EqualGraphs of both packages. -/
import Derived.Test.YtolilkbejghocaaEqG2
namespace Go.Proofs.Ytolilkbejghocaa
open Go.RowKit Go.ChangeShapes Go.WideShapes Go.ChangeAt Go.Deep
set_option linter.unusedVariables false
set_option maxRecDepth 4000 in
set_option maxHeartbeats 1000000 in
theorem implEqG_any (A B A2 B2 : Option Addr) (n c m d n2 c2 m2 d2 : Nat) (g h : G) (w : World) (hg : GReads w A n B m g) (hh : GReads w A2 n2 B2 m2 h) (hn : n ≤ 2000000) (hm : m ≤ 2000000) (hn2 : n2 ≤ 2000000) (hm2 : m2 ≤ 2000000) :
    Calls Try.prog 79 #[.agg #[.slice A n c, .slice B m d], .agg #[.slice A2 n2 c2, .slice B2 m2 d2]] w fun e w' => e = .returned (.bool (decide (g = h))) ∧ Below w.heap.size w w' := by
  obtain ⟨ln, lm, rv, re⟩ := hg
  obtain ⟨ln2, lm2, rv2, re2⟩ := hh
  obtain ⟨gv, ge⟩ := g
  obtain ⟨fv, fe⟩ := h
  dsimp only at *
  have hB0 : Below w.heap.size w ((w.alloc (.cells #[.slice A n c, .slice B m d] 53)).alloc (.cells #[.slice A2 n2 c2, .slice B2 m2 d2] 53)) := ((Below.refl _ _).alloc (Nat.le_refl _) _).alloc (by simp) _
  have kB : ((w.alloc (.cells #[.slice A n c, .slice B m d] 53)).alloc (.cells #[.slice A2 n2 c2, .slice B2 m2 d2] 53)).cell? ⟨w.heap.size, 1, none⟩ = some (.slice B m d) := by go_simp
  have kB2 : ((w.alloc (.cells #[.slice A n c, .slice B m d] 53)).alloc (.cells #[.slice A2 n2 c2, .slice B2 m2 d2] 53)).cell? ⟨w.heap.size + 1, 1, none⟩ = some (.slice B2 m2 d2) := by go_simp
  cases hv : eqB gv fv
  · have hE : decide (G.mk gv ge = G.mk fv fe) = false := by
      simp only [eqB, decide_eq_false_iff_not] at hv ⊢
      intro h
      injection h with h1 h2
      exact hv h1
    rw [hE]
    clear hE
    go_enter Try.func79, Try.ntmps79
    go_wp2_with fail
    refine (slEqInt_any A A2 n c n2 c2 gv fv _ ln ln2 hn hn2 (reads_up rv hB0) (reads_up rv2 hB0)).mono ?_
    rw [hv]
    rintro e w1 ⟨rfl, hb1⟩
    go_wp2
    go_ret
    exact ⟨rfl, below_then hB0 hb1⟩
  · have hE : decide (G.mk gv ge = G.mk fv fe) = decide (ge = fe) := by
      simp only [eqB, decide_eq_true_eq] at hv
      subst hv
      simp
    rw [hE]
    clear hE
    go_enter Try.func79, Try.ntmps79
    go_wp2_with fail
    refine (slEqInt_any A A2 n c n2 c2 gv fv _ ln ln2 hn hn2 (reads_up rv hB0) (reads_up rv2 hB0)).mono ?_
    rw [hv]
    rintro e w1 ⟨rfl, hb1⟩
    have hB1 := below_then hB0 hb1
    have kB1 := cell_keep hb1 kB
    have kB21 := cell_keep hb1 kB2
    clear kB kB2 hb1
    go_wp2_with fail
    refine (slEqEdge_any B B2 m d m2 d2 ge fe _ lm lm2 hm hm2 (reads_up re hB1) (reads_up re2 hB1)).mono ?_
    rintro e w2 ⟨rfl, hb2⟩
    go_wp2
    go_ret
    exact ⟨rfl, below_then hB1 hb2⟩
set_option maxRecDepth 4000 in
set_option maxHeartbeats 1000000 in
theorem specEqG_any (A B A2 B2 : Option Addr) (n c m d n2 c2 m2 d2 : Nat) (g h : G) (w : World) (hg : GReads w A n B m g) (hh : GReads w A2 n2 B2 m2 h) (hn : n ≤ 2000000) (hm : m ≤ 2000000) (hn2 : n2 ≤ 2000000) (hm2 : m2 ≤ 2000000) :
    Calls Try.prog 76 #[.agg #[.slice A n c, .slice B m d], .agg #[.slice A2 n2 c2, .slice B2 m2 d2]] w fun e w' => e = .returned (.bool (decide (g = h))) ∧ Below w.heap.size w w' := by
  obtain ⟨ln, lm, rv, re⟩ := hg
  obtain ⟨ln2, lm2, rv2, re2⟩ := hh
  obtain ⟨gv, ge⟩ := g
  obtain ⟨fv, fe⟩ := h
  dsimp only at *
  have hB0 : Below w.heap.size w ((w.alloc (.cells #[.slice A n c, .slice B m d] 53)).alloc (.cells #[.slice A2 n2 c2, .slice B2 m2 d2] 53)) := ((Below.refl _ _).alloc (Nat.le_refl _) _).alloc (by simp) _
  have kB : ((w.alloc (.cells #[.slice A n c, .slice B m d] 53)).alloc (.cells #[.slice A2 n2 c2, .slice B2 m2 d2] 53)).cell? ⟨w.heap.size, 1, none⟩ = some (.slice B m d) := by go_simp
  have kB2 : ((w.alloc (.cells #[.slice A n c, .slice B m d] 53)).alloc (.cells #[.slice A2 n2 c2, .slice B2 m2 d2] 53)).cell? ⟨w.heap.size + 1, 1, none⟩ = some (.slice B2 m2 d2) := by go_simp
  by_cases hv : gv = fv
  rotate_left
  · have hE : decide (G.mk gv ge = G.mk fv fe) = false := by
      simp only [decide_eq_false_iff_not]
      intro h
      injection h with h1 h2
      exact hv h1
    rw [hE]
    clear hE
    have hc0 : (cmpL gv fv != 0) = true := by
      have := mt (cmpL_zero gv fv).1 hv
      simpa using this
    go_enter Try.func76, Try.ntmps76
    go_wp2_with fail
    refine (l2Cmp_gen A A2 n c n2 c2 gv fv _ ln ln2 hn hn2 (reads_up rv hB0) (reads_up rv2 hB0)).mono ?_
    rintro e w1 ⟨rfl, hb1⟩
    go_wp2
    go_ret
    exact ⟨rfl, below_then hB0 hb1⟩
  · have hE : decide (G.mk gv ge = G.mk fv fe) = decide (ge = fe) := by
      subst hv
      simp
    rw [hE]
    clear hE
    have hc0 : cmpL gv fv = 0 := (cmpL_zero gv fv).2 hv
    go_enter Try.func76, Try.ntmps76
    go_wp2_with fail
    refine (l2Cmp_gen A A2 n c n2 c2 gv fv _ ln ln2 hn hn2 (reads_up rv hB0) (reads_up rv2 hB0)).mono ?_
    rw [hc0]
    rintro e w1 ⟨rfl, hb1⟩
    have hB1 := below_then hB0 hb1
    have kB1 := cell_keep hb1 kB
    have kB21 := cell_keep hb1 kB2
    have reR := reads_up re hB1
    have reR2 := reads_up re2 hB1
    clear kB kB2 hb1 hv hc0
    by_cases hmm : m = m2
    rotate_left
    · have hnn : ((m : Int) != m2) = true := by simp; omega
      have hE : decide (ge = fe) = false := by simp; intro h; subst h; omega
      have HE := Lib.hid hE
      clear hE
      go_wp2
      go_ret
      exact ⟨by rw [HE.out] <;> rfl, hB1⟩
    · subst hmm
      have hnn : ((m : Int) != m) = false := by simp
      go_wp2
      clear hnn
      go_loopw [5] (fun i wr => ∃ k : Nat, k ≤ m ∧ i = .int .i64 k ∧ ge.take k = fe.take k ∧ ∃ q, wr = w1.drewN q) (fun i _ => m - (intOf i).toNat)
      case atStart => exact ⟨0, Nat.zero_le _, rfl, rfl, 0, rfl⟩
      case round =>
        obtain ⟨k, hk, rfl, htk, q, rfl⟩ := hrel
        have HT := Lib.hid htk
        clear htk
        by_cases hlt : k < m
        · obtain ⟨b, o, rfl, hb, x, hx, c0, c1, c2, c3⟩ := edge_at reR lm hlt
          obtain ⟨b2, o2, rfl, hb2, y, hy, d0, d1, d2, d3⟩ := edge_at reR2 lm2 hlt
          have HX := Lib.hid hx
          have HY := Lib.hid hy
          have hlt' : (k : Int) < m := by omega
          clear hx hy
          obtain ⟨x1, x2, x3, x4⟩ := x
          obtain ⟨y1, y2, y3, y4⟩ := y
          dsimp only at c0 c1 c2 c3 d0 d1 d2 d3
          by_cases h1 : x1 = y1
          rotate_left
          · have e1 : (x1 == y1) = false := by simpa using h1
            have hE : decide (ge = fe) = false := by
              simp only [decide_eq_false_iff_not]
              rintro rfl
              have := HX.out.symm.trans HY.out
              simp at this
              omega
            have HE := Lib.hid hE
            clear hE
            go_wp2
            go_quiet (fail)
            go_wp2
            go_ret
            exact ⟨by rw [HE.out] <;> rfl, by refine below_then hB1 ?_; repeat (first | exact Below.refl _ _ | refine below_drewN ?_ _)⟩
          subst h1
          by_cases h2 : x2 = y2
          rotate_left
          · have e2 : (x2 == y2) = false := by simpa using h2
            have hE : decide (ge = fe) = false := by
              simp only [decide_eq_false_iff_not]
              rintro rfl
              have := HX.out.symm.trans HY.out
              simp at this
              omega
            have HE := Lib.hid hE
            clear hE
            go_wp2
            go_quiet (fail)
            go_wp2
            go_ret
            exact ⟨by rw [HE.out] <;> rfl, by refine below_then hB1 ?_; repeat (first | exact Below.refl _ _ | refine below_drewN ?_ _)⟩
          subst h2
          by_cases h3 : x3 = y3
          rotate_left
          · have e3 : (x3 == y3) = false := by simpa using h3
            have hE : decide (ge = fe) = false := by
              simp only [decide_eq_false_iff_not]
              rintro rfl
              have := HX.out.symm.trans HY.out
              simp at this
              omega
            have HE := Lib.hid hE
            clear hE
            go_wp2
            go_quiet (fail)
            go_wp2
            go_ret
            exact ⟨by rw [HE.out] <;> rfl, by refine below_then hB1 ?_; repeat (first | exact Below.refl _ _ | refine below_drewN ?_ _)⟩
          subst h3
          by_cases h4 : x4 = y4
          rotate_left
          · have e4 : (x4 == y4) = false := by simpa using h4
            have hE : decide (ge = fe) = false := by
              simp only [decide_eq_false_iff_not]
              rintro rfl
              have := HX.out.symm.trans HY.out
              simp at this
              omega
            have HE := Lib.hid hE
            clear hE
            go_wp2
            go_quiet (fail)
            go_wp2
            go_ret
            exact ⟨by rw [HE.out] <;> rfl, by refine below_then hB1 ?_; repeat (first | exact Below.refl _ _ | refine below_drewN ?_ _)⟩
          subst h4
          go_wp2
          go_quiet (fail)
          go_wp2
          go_roundw
          case rel => exact ⟨k + 1, by omega, by go_num, (take_eq_some HT.out HX.out HY.out).2 rfl, _, rfl⟩
          case measure => simp [intOf]; omega
        · obtain rfl : k = m := by omega
          have hE : decide (ge = fe) = true := by
            simp only [decide_eq_true_eq]
            have h := HT.out
            rwa [List.take_of_length_le (by omega), List.take_of_length_le (by omega)] at h
          have HE := Lib.hid hE
          clear hE
          go_wp2
          go_ret
          exact ⟨by rw [HE.out] <;> rfl, by refine below_then hB1 ?_; repeat (first | exact Below.refl _ _ | refine below_drewN ?_ _)⟩
end Go.Proofs.Ytolilkbejghocaa
