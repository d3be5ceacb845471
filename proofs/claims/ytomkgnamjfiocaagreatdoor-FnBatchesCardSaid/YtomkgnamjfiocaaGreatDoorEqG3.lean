/- EqualGraphs of both packages. -/
import Derived.Test.YtomkgnamjfiocaaGreatDoorEqG2
namespace Go.Proofs.YtomkgnamjfiocaaGreatDoor
open Go.RowKit Go.ChangeShapes Go.WideShapes Go.ChangeAt Go.Deep
set_option linter.unusedVariables false
set_option maxRecDepth 4000 in
set_option maxHeartbeats 1000000 in
theorem implEqG_any (A B A2 B2 : Option Addr) (n c m d n2 c2 m2 d2 : Nat) (g h : G) (w : World) (hg : GReads w A n B m g) (hh : GReads w A2 n2 B2 m2 h) (hn : n ≤ 2000000) (hm : m ≤ 2000000) (hn2 : n2 ≤ 2000000) (hm2 : m2 ≤ 2000000) :
    Calls Tryz.prog 27 #[.agg #[.slice A n c, .slice B m d], .agg #[.slice A2 n2 c2, .slice B2 m2 d2]] w fun e w' => e = .returned (.bool (decide (g = h))) ∧ Below w.heap.size w w' := by
  obtain ⟨ln, lm, rv, re⟩ := hg
  obtain ⟨ln2, lm2, rv2, re2⟩ := hh
  obtain ⟨gv, ge⟩ := g
  obtain ⟨fv, fe⟩ := h
  dsimp only at *
  have hB0 : Below w.heap.size w ((w.alloc (.cells #[.slice A n c, .slice B m d] 27)).alloc (.cells #[.slice A2 n2 c2, .slice B2 m2 d2] 27)) := ((Below.refl _ _).alloc (Nat.le_refl _) _).alloc (by simp) _
  have kB : ((w.alloc (.cells #[.slice A n c, .slice B m d] 27)).alloc (.cells #[.slice A2 n2 c2, .slice B2 m2 d2] 27)).cell? ⟨w.heap.size, 1, none⟩ = some (.slice B m d) := by go_simp
  have kB2 : ((w.alloc (.cells #[.slice A n c, .slice B m d] 27)).alloc (.cells #[.slice A2 n2 c2, .slice B2 m2 d2] 27)).cell? ⟨w.heap.size + 1, 1, none⟩ = some (.slice B2 m2 d2) := by go_simp
  cases hv : eqB gv fv
  · have hE : decide (G.mk gv ge = G.mk fv fe) = false := by
      simp only [eqB, decide_eq_false_iff_not] at hv ⊢
      intro h
      injection h with h1 h2
      exact hv h1
    rw [hE]
    clear hE
    go_enter Tryz.func27, Tryz.ntmps27
    go_wp2_with fail
    refine (slEqInt_any A A2 n c n2 c2 gv fv _ ln ln2 hn hn2 (reads_up rv hB0) (reads_up rv2 hB0)).mono ?_
    rw [hv]
    rintro e w1 ⟨rfl, hb1⟩
    go_wp2
    go_ret
    exact ⟨rfl, below_then hB0 hb1⟩
  · have hE : decide (G.mk gv ge = G.mk fv fe) = decide (ge = fe) := by
      simp only [eqB, decide_eq_true_eq] at hv
      subst hv
      simp
    rw [hE]
    clear hE
    go_enter Tryz.func27, Tryz.ntmps27
    go_wp2_with fail
    refine (slEqInt_any A A2 n c n2 c2 gv fv _ ln ln2 hn hn2 (reads_up rv hB0) (reads_up rv2 hB0)).mono ?_
    rw [hv]
    rintro e w1 ⟨rfl, hb1⟩
    have hB1 := below_then hB0 hb1
    have kB1 := cell_keep hb1 kB
    have kB21 := cell_keep hb1 kB2
    clear kB kB2 hb1
    go_wp2_with fail
    refine (slEqEdge_any B B2 m d m2 d2 ge fe _ lm lm2 hm hm2 (reads_up re hB1) (reads_up re2 hB1)).mono ?_
    rintro e w2 ⟨rfl, hb2⟩
    go_wp2
    go_ret
    exact ⟨rfl, below_then hB1 hb2⟩
end Go.Proofs.YtomkgnamjfiocaaGreatDoor
