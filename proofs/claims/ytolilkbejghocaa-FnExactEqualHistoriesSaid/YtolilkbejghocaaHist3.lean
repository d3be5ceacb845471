/- EqualHistories of both packages. -/
import Derived.Test.YtolilkbejghocaaHist2
namespace Go.Proofs.Ytolilkbejghocaa
open Go.RowKit Go.ChangeShapes Go.WideShapes Go.ChangeAt Go.Deep
set_option linter.unusedVariables false
theorem gs_take {l l2 : List GV} {q : Nat} {v v2 : GV} (h : gsOf (l.take q) = gsOf (l2.take q)) (hv : l[q]? = some v) (hv2 : l2[q]? = some v2) : gsOf (l.take (q + 1)) = gsOf (l2.take (q + 1)) ↔ v.g = v2.g := by
  obtain ⟨h1, e1⟩ := List.getElem?_eq_some_iff.1 hv
  obtain ⟨h2, e2⟩ := List.getElem?_eq_some_iff.1 hv2
  rw [List.take_succ_eq_append_getElem h1, List.take_succ_eq_append_getElem h2, e1, e2]
  unfold gsOf at *
  rw [List.map_append, List.map_append, h]
  exact ⟨fun hh => by simpa using List.append_cancel_left hh, fun hh => by simp [hh]⟩
theorem gs_ne {l l2 : List GV} {q : Nat} {v v2 : GV} (hv : l[q]? = some v) (hv2 : l2[q]? = some v2) (hne : v.g ≠ v2.g) : gsOf l ≠ gsOf l2 := by
  intro he
  have h3 := gs_at hv
  have h4 := gs_at hv2
  rw [he, h4] at h3
  injection h3 with h3
  exact hne h3.symm
theorem gs_len (l : List GV) : (gsOf l).length = l.length := by unfold gsOf; rw [List.length_map]
set_option maxRecDepth 4000 in
set_option maxHeartbeats 4000000 in
theorem eqFuncG_is (w : World) {D E : Option Addr} {k c k2 d : Nat} {l l2 : List GV} (h : HRd w D k l) (h2 : HRd w E k2 l2) :
    Calls Try.prog 78 #[.slice D k c, .slice E k2 d, .func (.func 79) #[] #[]] w fun e w' => e = .returned (.bool (decide (gsOf l = gsOf l2))) ∧ Below w.heap.size w w' := by
  have hk := h.bd
  by_cases hkk : k = k2
  rotate_left
  · have hE : decide (gsOf l = gsOf l2) = false := by
      simp only [decide_eq_false_iff_not]
      intro he
      have h3 := congrArg List.length he
      rw [gs_len, gs_len, h.ln, h2.ln] at h3
      exact hkk h3
    have hnn : ((k : Int) != k2) = true := by simp; omega
    rw [hE]
    clear hE hkk
    go_enter Try.func78, Try.ntmps78
    go_wp2
    go_ret
    exact ⟨rfl, Below.refl _ _⟩
  · subst hkk
    have hnn : ((k : Int) != k) = false := by simp
    have HL1 := Lib.hid h.ln
    have HL2 := Lib.hid h2.ln
    go_enter Try.func78, Try.ntmps78
    go_wp2
    clear hnn
    go_loopw [17] (fun i wr => ∃ (q : Nat) (z : Kept w), wr = z.W ∧ q ≤ k ∧ i = .int .i64 q ∧ gsOf (l.take q) = gsOf (l2.take q)) (fun i _ => k - (intOf i).toNat)
    case atStart => exact ⟨0, ⟨w, Below.refl _ _⟩, rfl, Nat.zero_le _, rfl, rfl⟩
    case round =>
      obtain ⟨q, z, rfl, hq, rfl, hgt⟩ := hrel
      have HG := Lib.hid hgt
      clear hgt
      have hz := z.be
      by_cases hlt : q < k
      · obtain ⟨b, o, rfl, had, v, hv, c0, c1⟩ := h.at_ hlt
        obtain ⟨b2, o2, rfl, had2, v2, hv2, d0, d1⟩ := h2.at_ hlt
        have y0 := Kept.cell c0
        have y1 := Kept.cell c1
        have y2 := Kept.cell d0
        have y3 := Kept.cell d1
        have hg := h.gr v (List.mem_of_getElem? hv)
        have hg2 := h2.gr v2 (List.mem_of_getElem? hv2)
        have HTK := Lib.hid (gs_take HG.out hv hv2)
        have HNE := Lib.hid (gs_ne hv hv2)
        obtain ⟨vA, vn, vc, vB, vm, vd, vg⟩ := v
        obtain ⟨uA, un, uc, uB, um, ud, ug⟩ := v2
        dsimp only at y0 y1 y2 y3 hg hg2
        have hlt' : (q : Int) < k := by omega
        have hk0 : (0 : Int) ≤ (q : Int) := by omega
        have bA : Below z.W.heap.size z.W (z.W.alloc (.cells #[.slice vA vn vc, .slice vB vm vd] 53)) := (Below.refl _ _).alloc (Nat.le_refl _) _
        have XA := Blk.new z.W 53 #[.slice vA vn vc, .slice vB vm vd]
        obtain ⟨z1, hz1e⟩ := Kept.of z bA
        have hs1 := bA.size
        rw [hz1e] at XA hs1
        have bB : Below z1.W.heap.size z1.W (z1.W.alloc (.cells #[.slice uA un uc, .slice uB um ud] 53)) := (Below.refl _ _).alloc (Nat.le_refl _) _
        have XB := Blk.new z1.W 53 #[.slice uA un uc, .slice uB um ud]
        have XA2 := XA.below bB XA.lt
        obtain ⟨z2, hz2e⟩ := Kept.of z1 bB
        rw [hz2e] at XB XA2
        have a0 : z2.W.cell? ⟨z.W.heap.size, 0, none⟩ = some (.slice vA vn vc) := by rw [XA2.cell]; rfl
        have a1 : z2.W.cell? ⟨z.W.heap.size, 1, none⟩ = some (.slice vB vm vd) := by rw [XA2.cell]; rfl
        have b0 : z2.W.cell? ⟨z1.W.heap.size, 0, none⟩ = some (.slice uA un uc) := by rw [XB.cell]; rfl
        have b1 : z2.W.cell? ⟨z1.W.heap.size, 1, none⟩ = some (.slice uB um ud) := by rw [XB.cell]; rfl
        have hu1 := hg.up z2.be
        have hu2 := hg2.up z2.be
        have hcall := implEqG_any vA vB uA uB vn vc vm vd un uc um ud vg ug z2.W hu1.gr hu2.gr hu1.bn hu1.bm hu2.bn hu2.bm
        obtain ⟨t, ht⟩ : ∃ t, decide (vg = ug) = t := ⟨_, rfl⟩
        rw [ht] at hcall
        have HC := Lib.hid hcall
        have HT := Lib.hid ht
        clear hv hv2 c0 c1 d0 d1 hcall hg hg2 hu1 hu2 bA bB XA XB XA2 ht
        go_wp2_with fail
        refine HC.out.mono ?_
        rintro e w3 ⟨rfl, hb3⟩
        obtain ⟨z3, rfl⟩ := Kept.of z2 hb3
        have hz3 := z3.be
        clear hb3
        cases t
        · have hne : decide (gsOf l = gsOf l2) = false := by
            simp only [decide_eq_false_iff_not]
            exact HNE.out (by have := HT.out; simpa using this)
          have HN := Lib.hid hne
          clear hne
          go_wp2
          go_ret
          exact ⟨by rw [HN.out] <;> rfl, hz3⟩
        · have hnx := HTK.out.2 (by have := HT.out; simpa using this)
          have HX := Lib.hid hnx
          clear hnx
          go_wp2
          go_roundw
          case rel => exact ⟨q + 1, z3, rfl, by omega, by go_num, HX.out⟩
          case measure => simp [intOf]; omega
      · obtain rfl : q = k := by omega
        have hlt' : ¬ (q : Int) < q := by omega
        have hg := HG.out
        rw [List.take_of_length_le (by have := HL1.out; omega), List.take_of_length_le (by have := HL2.out; omega)] at hg
        have HD := Lib.hid (show decide (gsOf l = gsOf l2) = true by simp [hg])
        clear hg
        go_wp2
        go_ret
        exact ⟨by rw [HD.out] <;> rfl, hz⟩
set_option maxRecDepth 4000 in
set_option maxHeartbeats 4000000 in
theorem implEqualHistories_is (w : World) (s s2 : Int) {D E : Option Addr} {k c k2 d : Nat} {l l2 : List GV} (h : HRd w D k l) (h2 : HRd w E k2 l2) :
    Calls Try.prog 24 #[.agg #[.int .i64 s, .slice D k c], .agg #[.int .i64 s2, .slice E k2 d]] w fun e w' => e = .returned (.bool (decide (s = s2) && decide (gsOf l = gsOf l2))) ∧ Below w.heap.size w w' := by
  have hB0 : Below w.heap.size w ((w.alloc (.cells #[.int .i64 s, .slice D k c] 41)).alloc (.cells #[.int .i64 s2, .slice E k2 d] 41)) := ((Below.refl _ _).alloc (Nat.le_refl _) _).alloc (by simp) _
  by_cases hs : s = s2
  · subst hs
    have hE : (decide (s = s) && decide (gsOf l = gsOf l2)) = decide (gsOf l = gsOf l2) := by simp
    rw [hE]
    clear hE
    go_enter Try.func24, Try.ntmps24
    go_wp2_with fail
    generalize ((w.alloc (.cells #[.int .i64 s, .slice D k c] 41)).alloc (.cells #[.int .i64 s, .slice E k2 d] 41)) = w0 at *
    refine (eqFuncG_is _ (h.up hB0) (h2.up hB0)).mono ?_
    rintro e w1 ⟨rfl, hb1⟩
    have hB1 := below_then hB0 hb1
    obtain ⟨t, ht⟩ : ∃ t, decide (gsOf l = gsOf l2) = t := ⟨_, rfl⟩
    have HT := Lib.hid ht
    rw [ht]
    clear ht
    go_wp2
    go_ret
    exact ⟨by rw [HT.out] <;> rfl, hB1⟩
  · have hE : (decide (s = s2) && decide (gsOf l = gsOf l2)) = false := by simp [hs]
    have hs2 : (s == s2) = false := by simp [hs]
    rw [hE]
    clear hE hs
    go_enter Try.func24, Try.ntmps24
    go_wp2
    go_ret
    exact ⟨rfl, hB0⟩
set_option maxRecDepth 4000 in
set_option maxHeartbeats 4000000 in
theorem specEqualHistories_is (w : World) (s s2 : Int) {D E : Option Addr} {k c k2 d : Nat} {l l2 : List GV} (h : HRd w D k l) (h2 : HRd w E k2 l2) :
    Calls Try.prog 22 #[.agg #[.int .i64 s, .slice D k c], .agg #[.int .i64 s2, .slice E k2 d]] w fun e w' => e = .returned (.bool (decide (s = s2) && decide (gsOf l = gsOf l2))) ∧ Below w.heap.size w w' := by
  have hk := h.bd
  have hB0 : Below w.heap.size w ((w.alloc (.cells #[.int .i64 s, .slice D k c] 41)).alloc (.cells #[.int .i64 s2, .slice E k2 d] 41)) := ((Below.refl _ _).alloc (Nat.le_refl _) _).alloc (by simp) _
  by_cases hs : s = s2
  rotate_left
  · have hE : (decide (s = s2) && decide (gsOf l = gsOf l2)) = false := by simp [hs]
    have hs2 : (s != s2) = true := by simp [hs]
    rw [hE]
    clear hE hs
    go_enter Try.func22, Try.ntmps22
    go_wp2
    go_ret
    exact ⟨rfl, hB0⟩
  · subst hs
    have hE : (decide (s = s) && decide (gsOf l = gsOf l2)) = decide (gsOf l = gsOf l2) := by simp
    have hss : (s != s) = false := by simp
    rw [hE]
    clear hE
    by_cases hkk : k = k2
    rotate_left
    · have hE : decide (gsOf l = gsOf l2) = false := by
        simp only [decide_eq_false_iff_not]
        intro he
        have h3 := congrArg List.length he
        rw [gs_len, gs_len, h.ln, h2.ln] at h3
        exact hkk h3
      have hnn : ((k : Int) != k2) = true := by simp; omega
      rw [hE]
      clear hE hkk
      go_enter Try.func22, Try.ntmps22
      go_wp2
      go_ret
      exact ⟨rfl, hB0⟩
    · subst hkk
      have hnn : ((k : Int) != k) = false := by simp
      have HL1 := Lib.hid h.ln
      have HL2 := Lib.hid h2.ln
      have XA := (Blk.new w 41 #[.int .i64 s, .slice D k c]).alloc (.cells #[.int .i64 s, .slice E k d] 41)
      have XB := Blk.new (w.alloc (.cells #[.int .i64 s, .slice D k c] 41)) 41 #[.int .i64 s, .slice E k d]
      simp only [World.size_alloc] at XB
      go_enter Try.func22, Try.ntmps22
      go_wp2
      clear hnn hss
      generalize ((w.alloc (.cells #[.int .i64 s, .slice D k c] 41)).alloc (.cells #[.int .i64 s, .slice E k d] 41)) = w0 at *
      have x1 := XA.kc (v := .slice D k c) 1 rfl
      have x2 := XB.kc (v := .slice E k d) 1 rfl
      go_loopw [5] (fun i wr => ∃ (q : Nat) (z : Kept w0), wr = z.W ∧ q ≤ k ∧ i = .int .i64 q ∧ gsOf (l.take q) = gsOf (l2.take q)) (fun i _ => k - (intOf i).toNat)
      case atStart => exact ⟨0, ⟨w0, Below.refl _ _⟩, rfl, Nat.zero_le _, rfl, rfl⟩
      case round =>
        obtain ⟨q, z, rfl, hq, rfl, hgt⟩ := hrel
        have HG := Lib.hid hgt
        clear hgt
        have hz := below_then hB0 z.be
        by_cases hlt : q < k
        · obtain ⟨b, o, rfl, had, v, hv, c0, c1⟩ := h.at_ hlt
          obtain ⟨b2, o2, rfl, had2, v2, hv2, d0, d1⟩ := h2.at_ hlt
          have y0 := Kept.cell (cell_keep hB0 c0)
          have y1 := Kept.cell (cell_keep hB0 c1)
          have y2 := Kept.cell (cell_keep hB0 d0)
          have y3 := Kept.cell (cell_keep hB0 d1)
          have hg := h.gr v (List.mem_of_getElem? hv)
          have hg2 := h2.gr v2 (List.mem_of_getElem? hv2)
          have HTK := Lib.hid (gs_take HG.out hv hv2)
          have HNE := Lib.hid (gs_ne hv hv2)
          obtain ⟨vA, vn, vc, vB, vm, vd, vg⟩ := v
          obtain ⟨uA, un, uc, uB, um, ud, ug⟩ := v2
          dsimp only at y0 y1 y2 y3 hg hg2
          have hlt' : (q : Int) < k := by omega
          have hk0 : (0 : Int) ≤ (q : Int) := by omega
          have hcall : ∀ x : Kept w0, Calls Try.prog 76 #[.agg #[.slice vA vn vc, .slice vB vm vd], .agg #[.slice uA un uc, .slice uB um ud]] x.W fun e w' => e = .returned (.bool (decide (vg = ug))) ∧ Below x.W.heap.size x.W w' := fun x =>
            specEqG_any vA vB uA uB vn vc vm vd un uc um ud vg ug x.W (hg.up (below_then hB0 x.be)).gr (hg2.up (below_then hB0 x.be)).gr hg.bn hg.bm hg2.bn hg2.bm
          obtain ⟨t, ht⟩ : ∃ t, decide (vg = ug) = t := ⟨_, rfl⟩
          rw [ht] at hcall
          have HC := Lib.hid hcall
          have HT := Lib.hid ht
          clear hv hv2 c0 c1 d0 d1 hcall hg hg2 ht
          go_wp2_with fail
          refine wp_region_k2 (by kernel_rfl) (by kernel_rfl) ?_
          repeat (go_big_quiet_step ((go_at_call 76; exact Calls.kept (HC.out _))))
          refine wpQuiet_nil ?_
          intro _ hw'
          obtain ⟨z3, rfl⟩ := hw'
          have hz3 := below_then hB0 z3.be
          cases t
          · have hne : decide (gsOf l = gsOf l2) = false := by
              simp only [decide_eq_false_iff_not]
              exact HNE.out (by have := HT.out; simpa using this)
            have HN := Lib.hid hne
            clear hne
            go_wp2
            go_ret
            exact ⟨by rw [HN.out] <;> rfl, hz3⟩
          · have hnx := HTK.out.2 (by have := HT.out; simpa using this)
            have HX := Lib.hid hnx
            clear hnx
            go_wp2
            go_roundw
            case rel => exact ⟨q + 1, z3, rfl, by omega, by go_num, HX.out⟩
            case measure => simp [intOf]; omega
        · obtain rfl : q = k := by omega
          have hlt' : ¬ (q : Int) < q := by omega
          have hg := HG.out
          rw [List.take_of_length_le (by have := HL1.out; omega), List.take_of_length_le (by have := HL2.out; omega)] at hg
          have HD := Lib.hid (show decide (gsOf l = gsOf l2) = true by simp [hg])
          clear hg
          go_wp2
          go_ret
          exact ⟨by rw [HD.out] <;> rfl, hz⟩
end Go.Proofs.Ytolilkbejghocaa
