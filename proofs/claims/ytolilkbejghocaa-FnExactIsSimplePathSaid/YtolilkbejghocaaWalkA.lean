/- nodesOf of the program. -/
import Derived.Test.YtolilkbejghocaaStepsW
import Derived.IntWalk
namespace Go.Proofs.Ytolilkbejghocaa
open Go.RowKit Go.ChangeShapes Go.WideShapes Go.ChangeAt Go.Deep
set_option linter.unusedVariables false
/-- The nodes of a walk's first k steps. -/
def nodesUp (g : G) (s : Int) (l : List St) (k : Nat) : List Int := s :: (l.take k).map (stTo g)
/-- Whether the first k steps fit. -/
def okUp (g : G) (s : Int) (l : List St) (k : Nat) : Bool := (List.range k).all fun j => match l[j]?, (s :: l.map (stTo g))[j]? with | some x, some a => stFrom g x == a | _, _ => true
def walkOk (g : G) (s : Int) (l : List St) : Bool := validG g && inB s 0 (g.vs.length - 1) && decide (l.length ≤ 60) && okUp g s l l.length
def nodesZ (g : G) (s : Int) (l : List St) : List Int := if walkOk g s l then nodesUp g s l l.length else []
theorem nodesUp_len {g : G} {s : Int} {l : List St} {k : Nat} (h : k ≤ l.length) : (nodesUp g s l k).length = k + 1 := by simp [nodesUp, Nat.min_eq_left h]
theorem nodesUp_zero (g : G) (s : Int) (l : List St) : nodesUp g s l 0 = [s] := rfl
theorem nodesUp_succ {g : G} {s : Int} {l : List St} {k : Nat} {x : St} (h : l[k]? = some x) : nodesUp g s l (k + 1) = nodesUp g s l k ++ [stTo g x] := by
  obtain ⟨hk, rfl⟩ := List.getElem?_eq_some_iff.1 h
  unfold nodesUp
  rw [List.take_succ_eq_append_getElem hk, List.map_append]
  rfl
theorem nodesUp_last {g : G} {s : Int} {l : List St} {k : Nat} (h : k ≤ l.length) : (nodesUp g s l k)[k]? = (s :: l.map (stTo g))[k]? := by
  unfold nodesUp
  cases k with
  | zero => rfl
  | succ k =>
    rw [List.getElem?_cons_succ, List.getElem?_cons_succ, List.getElem?_map, List.getElem?_map, List.getElem?_take, if_pos (by omega)]
theorem okUp_succ {g : G} {s : Int} {l : List St} {k : Nat} {x : St} {a : Int} (h : l[k]? = some x) (ha : (nodesUp g s l k)[k]? = some a) : okUp g s l (k + 1) = (okUp g s l k && (stFrom g x == a)) := by
  have hk := (List.getElem?_eq_some_iff.1 h).1
  rw [nodesUp_last (by omega)] at ha
  unfold okUp
  rw [List.range_succ, List.all_append]
  simp [h, ha]
theorem okUp_false {g : G} {s : Int} {l : List St} {q m : Nat} (h : okUp g s l (q + 1) = false) (hq : q < m) : okUp g s l m = false := by
  unfold okUp at *
  rw [List.all_eq_false] at *
  obtain ⟨x, hx, hf⟩ := h
  exact ⟨x, by rw [List.mem_range] at *; omega, hf⟩
/-- A step that begins at a node that is not negative has an edge, and it ends at such a node. -/
theorem stTo_nonneg {g : G} {x : St} {a : Int} (h : stFrom g x = a) (ha : 0 ≤ a) : (stE g x).2 = true ∧ 0 ≤ stTo g x := by
  unfold stFrom at h
  cases hk : (stE g x).2
  · rw [hk] at h
    simp at h
    omega
  · refine ⟨rfl, ?_⟩
    have hE : stE g ⟨x.ed, !x.inv⟩ = stE g x := rfl
    unfold stTo stFrom
    rw [hE, hk]
    have hb : 0 ≤ (stE g x).1.fr ∧ 0 ≤ (stE g x).1.to := by
      unfold stE at hk ⊢
      cases hv : validG g
      · simp [hv] at hk
      · simp only [hv, if_true] at hk ⊢
        cases he : g.es[ixN g.es x.ed]? with
        | none => simp [he] at hk
        | some e =>
          have := okE_bd (valid_edge hv he)
          simp only
          omega
    simp only [if_true]
    split
    · exact hb.2
    · exact hb.1
theorem walkOk_1 {g : G} {s : Int} {l : List St} (h : validG g = false) : walkOk g s l = false := by simp [walkOk, h]
theorem walkOk_2 {g : G} {s : Int} {l : List St} (h : inB s 0 (g.vs.length - 1) = false) : walkOk g s l = false := by simp [walkOk, h]
theorem walkOk_3 {g : G} {s : Int} {l : List St} (h : 60 < l.length) : walkOk g s l = false := by
  have : decide (l.length ≤ 60) = false := by simp; omega
  simp [walkOk, this]
theorem walkOk_4 {g : G} {s : Int} {l : List St} {k : Nat} (h : okUp g s l (k + 1) = false) (hk : k < l.length) : walkOk g s l = false := by simp [walkOk, okUp_false h hk]
theorem walkOk_5 {g : G} {s : Int} {l : List St} (h1 : validG g = true) (h2 : inB s 0 (g.vs.length - 1) = true) (h3 : l.length ≤ 60) (h4 : okUp g s l l.length = true) : walkOk g s l = true := by simp [walkOk, h1, h2, h3, h4]
theorem nodesZ_no {g : G} {s : Int} {l : List St} (h : walkOk g s l = false) : nodesZ g s l = [] := by simp [nodesZ, h]
theorem nodesZ_yes {g : G} {s : Int} {l : List St} (h : walkOk g s l = true) : nodesZ g s l = nodesUp g s l l.length := by simp [nodesZ, h]
theorem own_block {w : World} {base k size : Nat} {e : TypeId} {v : Value} {xs : List Value} (h : w.ownsRow base e size v (k + 1) xs) : ∃ b d, v = .slice (some ⟨b, 0, none⟩) (k + 1) d ∧ base ≤ b ∧ b < w.heap.size := by
  rcases id h.2 with ⟨_, h0⟩ | ⟨g1, cap, cur, hv, _⟩
  · omega
  · exact ⟨g1, cap, hv, ownBlock_some h (by rw [hv]; simp [Value.ownBlock])⟩
theorem ris_nil (w : World) (e : TypeId) (size : Nat) : RIs w w.heap.size w.heap.size e size none 0 0 [] := RIs.of (World.ownsRow_nil _ _ _ _) (by omega)
theorem own_snoc_int {w : World} {base n : Nat} {e : TypeId} {v x : Value} {L : List Int} (y : Int) (hx : x = iv y) (h : w.ownsRow base e 1 v (n + 1) (L.map iv ++ x.cells.toList)) : w.ownsRow base e 1 v (n + 1) ((L ++ [y]).map iv) := by
  subst hx
  rw [List.map_append]
  exact h
set_option maxRecDepth 4000 in
set_option maxHeartbeats 2000000 in
theorem nodesOf_is (w : World) {A B C : Option Addr} {n c m d q e : Nat} {g : G} (h : GRd w A n B m g) (s : Int) {l : List St} (h' : SRd w C q l) :
    Calls Try.prog 106 #[.agg #[.slice A n c, .slice B m d], .agg #[.int .i64 s, .slice C q e]] w fun r w' => ∃ A2 n2 c2, r = .returned (.tuple #[.slice A2 n2 c2, .bool (walkOk g s l)]) ∧ RIs w' w.heap.size w'.heap.size 3 1 A2 n2 c2 ((nodesZ g s l).map iv) ∧ Below w.heap.size w w' := by
  have hn := h.bn
  have hq := h'.bd
  have HLQ := Lib.hid h'.ln
  have HLN := Lib.hid h.gr.ln
  have hB0 : Below w.heap.size w ((w.alloc (.cells #[.slice A n c, .slice B m d] 53)).alloc (.cells #[.int .i64 s, .slice C q e] 76)) := ((Below.refl _ _).alloc (Nat.le_refl _) _).alloc (by simp) _
  have kA : ((w.alloc (.cells #[.slice A n c, .slice B m d] 53)).alloc (.cells #[.int .i64 s, .slice C q e] 76)).cell? ⟨w.heap.size, 0, none⟩ = some (.slice A n c) := by go_simp
  have kB : ((w.alloc (.cells #[.slice A n c, .slice B m d] 53)).alloc (.cells #[.int .i64 s, .slice C q e] 76)).cell? ⟨w.heap.size, 1, none⟩ = some (.slice B m d) := by go_simp
  have kS : ((w.alloc (.cells #[.slice A n c, .slice B m d] 53)).alloc (.cells #[.int .i64 s, .slice C q e] 76)).cell? ⟨w.heap.size + 1, 0, none⟩ = some (.int .i64 s) := by go_simp
  have kC : ((w.alloc (.cells #[.slice A n c, .slice B m d] 53)).alloc (.cells #[.int .i64 s, .slice C q e] 76)).cell? ⟨w.heap.size + 1, 1, none⟩ = some (.slice C q e) := by go_simp
  have hz0 : w.heap.size + 1 < ((w.alloc (.cells #[.slice A n c, .slice B m d] 53)).alloc (.cells #[.int .i64 s, .slice C q e] 76)).heap.size := by simp
  go_enter Try.func106, Try.ntmps106
  go_wp2_with fail
  generalize ((w.alloc (.cells #[.slice A n c, .slice B m d] 53)).alloc (.cells #[.int .i64 s, .slice C q e] 76)) = w0 at *
  refine (implValid_rd _ (h.up hB0)).mono ?_
  rintro r w1 ⟨rfl, hb1⟩
  have hB1 := below_then hB0 hb1
  have kA1 := cell_keep hb1 kA
  have kB1 := cell_keep hb1 kB
  have kS1 := cell_keep hb1 kS
  have kC1 := cell_keep hb1 kC
  have hz1 : w.heap.size + 1 < w1.heap.size := Nat.lt_of_lt_of_le hz0 hb1.size
  clear kA kB kS kC hb1
  have hcase : walkOk g s l = false ∧ (validG g = false ∨ (validG g = true ∧ inB s 0 ((n : Int) - 1) = false) ∨ (validG g = true ∧ inB s 0 ((n : Int) - 1) = true ∧ 60 < q)) ∨ (validG g = true ∧ inB s 0 ((n : Int) - 1) = true ∧ q ≤ 60) := by
    have h1 := HLN.out
    have h2 := HLQ.out
    cases hv : validG g
    · exact .inl ⟨walkOk_1 hv, .inl rfl⟩
    · cases hi : inB s 0 ((n : Int) - 1)
      · exact .inl ⟨walkOk_2 (by rw [h1]; exact hi), .inr (.inl ⟨rfl, rfl⟩)⟩
      · rcases Nat.lt_or_ge 60 q with h3 | h3
        · exact .inl ⟨walkOk_3 (by omega), .inr (.inr ⟨rfl, rfl, h3⟩)⟩
        · exact .inr ⟨rfl, rfl, h3⟩
  rcases hcase with ⟨hno, hw⟩ | ⟨hv, hi, hq60⟩
  · have HNO := Lib.hid hno
    have HZ := Lib.hid (nodesZ_no hno)
    clear hno
    rcases hw with hv | ⟨hv, hi⟩ | ⟨hv, hi, hj⟩
    · rw [hv]
      clear hv
      go_wp2
      go_ret2
      exact ⟨_, _, _, by rw [HNO.out] <;> rfl, by rw [HZ.out]; exact (ris_nil _ _ _).wide hB1.size (Nat.le_refl _), hB1⟩
    · rw [hv]
      have HI := Lib.hid hi
      clear hv hi
      go_wp2_with (go_at_call 84; refine (within_any _ _ _ _).mono ?_; rw [HI.out]; rintro e w' ⟨rfl, rfl⟩)
      go_ret2
      exact ⟨_, _, _, by rw [HNO.out] <;> rfl, by rw [HZ.out]; exact (ris_nil _ _ _).wide hB1.size (Nat.le_refl _), hB1⟩
    · rw [hv]
      have HI := Lib.hid hi
      clear hv hi
      go_wp2_with (go_at_call 84; refine (within_any _ _ _ _).mono ?_; rw [HI.out]; rintro e w' ⟨rfl, rfl⟩)
      go_ret2
      exact ⟨_, _, _, by rw [HNO.out] <;> rfl, by rw [HZ.out]; exact (ris_nil _ _ _).wide hB1.size (Nat.le_refl _), hB1⟩
  · have HW1 := Lib.hid (fun hk => walkOk_5 (g := g) (s := s) (l := l) hv (by rw [HLN.out]; exact hi) (by rw [HLQ.out]; exact hq60) hk)
    have hs0 : 0 ≤ s := (inB_true.1 hi).1
    rw [hv]
    have HI := Lib.hid hi
    have ho1 : (w1.alloc (.cells #[.int .i64 s] 3)).ownsRow w1.heap.size 3 1 (.slice (some ⟨w1.heap.size, 0, none⟩) 1 1) 1 ([s].map iv) := World.ownsRow_lit _ #[.int .i64 s] 1 (Nat.le_refl _) (by simp [maxLen]) rfl
    have hb2 : Below w1.heap.size w1 (w1.alloc (.cells #[.int .i64 s] 3)) := (Below.refl _ _).alloc (Nat.le_refl _) _
    clear hv hi
    go_wp2_with (go_at_call 84; refine (within_any _ _ _ _).mono ?_; rw [HI.out]; rintro e w' ⟨rfl, rfl⟩)
    go_loopw [6, 34] (fun v i wr => ∃ (k : Nat) (a : Int), k ≤ q ∧ i = .int .i64 k ∧ wr.ownsRow w1.heap.size 3 1 v (k + 1) ((nodesUp g s l k).map iv) ∧ okUp g s l k = true ∧ (nodesUp g s l k)[k]? = some a ∧ 0 ≤ a ∧ Below w1.heap.size w1 wr) (fun _ i _ => q - (intOf i).toNat)
    case atStart => exact ⟨0, s, Nat.zero_le _, rfl, ho1, rfl, rfl, hs0, hb2⟩
    case round =>
      obtain ⟨k, a, hk, rfl, hown, hok, hlast, ha0, t⟩ := hrel
      have HOK := Lib.hid hok
      have HLA := Lib.hid hlast
      have hBr := below_then hB1 t
      have kAr := cell_keep t kA1
      have kBr := cell_keep t kB1
      clear hok
      by_cases hlt : k < q
      · obtain ⟨b, o, rfl, had, x, hx, c0, c1⟩ := step_at (h'.up hBr).rd HLQ.out hlt
        have HSX := Lib.hid (okUp_succ hx hlast)
        have HNX := Lib.hid (nodesUp_succ (g := g) (s := s) hx)
        have HST := Lib.hid (fun hq => stTo_nonneg (g := g) (x := x) (a := a) hq ha0)
        have HLX := Lib.hid (nodesUp_len (g := g) (s := s) (l := l) (k := k + 1) (by rw [HLQ.out]; omega))
        have HKQ := Lib.hid (fun hf => walkOk_4 (g := g) (s := s) (l := l) (k := k) hf (by rw [HLQ.out]; omega))
        obtain ⟨b1, d1, rfl, hb1a, hb1b⟩ := own_block hown
        have hcl : wr.cell? ⟨b1, k, none⟩ = some (.int .i64 a) := by rw [hown.cellAt k (by omega), List.getElem?_map, hlast]; rfl
        have q3 : Small (k + 1 + 1) := small_of (by omega)
        clear hx hlast
        obtain ⟨xe, xi⟩ := x
        dsimp only at c0 c1
        have hb3 : Below wr.heap.size wr (wr.alloc (.cells #[.int .i64 xe, .bool xi] 93)) := (Below.refl _ _).alloc (Nat.le_refl _) _
        have x0 : (wr.alloc (.cells #[.int .i64 xe, .bool xi] 93)).cell? ⟨wr.heap.size, 0, none⟩ = some (.int .i64 xe) := by go_simp
        have x1 : (wr.alloc (.cells #[.int .i64 xe, .bool xi] 93)).cell? ⟨wr.heap.size, 1, none⟩ = some (.bool xi) := by go_simp
        have kA3 := cell_keep hb3 kAr
        have kB3 := cell_keep hb3 kBr
        have hcl3 := cell_keep hb3 hcl
        have ho3 := own_below hown hb3 (Nat.le_refl _)
        have t3 := below_then t hb3
        have hk1 : (0 : Int) ≤ (k : Int) := by omega
        have hk2 : (k : Int) < (k : Int) + 1 := by omega
        have hwr : IntKind.i64.wrap (k : Int) = (k : Int) := IntWalk.i64_in _ (by omega)
        clear kAr kBr hcl hown hBr hb3
        go_wp2_with fail
        generalize wr.heap.size = xb at *
        generalize (wr.alloc (.cells #[.int .i64 xe, .bool xi] 93)) = w3 at *
        have hbD : Below w3.heap.size w3 w3.drew := (Below.refl _ _).drew
        have tD := below_then t3 hbD
        have hBD := below_then hB1 tD
        go_region_held3 (fun w' => w'.cell? ⟨w.heap.size, 0, none⟩ = some (.slice A n c) ∧ w'.cell? ⟨w.heap.size, 1, none⟩ = some (.slice B m d) ∧ w'.cell? ⟨xb, 0, none⟩ = some (.int .i64 xe) ∧ w'.cell? ⟨xb, 1, none⟩ = some (.bool xi) ∧ w'.cell? ⟨b1, k, none⟩ = some (.int .i64 a)) (first | exact ⟨kA3, kB3, x0, x1, hcl3⟩ | exact ⟨kA4, kB4, x04, x14, hcl4⟩) (first
          | (go_simp; go_at_call 60; refine (implStepFrom_is _ (h.up hBD) ⟨xe, xi⟩).mono ?_; rintro r w4 ⟨rfl, hb4d⟩; have hb4 := below_then hbD hb4d; have kA4 := cell_keep hb4 kA3; have kB4 := cell_keep hb4 kB3; have x04 := cell_keep hb4 x0; have x14 := cell_keep hb4 x1; have hcl4 := cell_keep hb4 hcl3; dsimp only))
        clear hwr kA3 kB3 x0 x1 hcl3 hb4d
        have ho4 := own_below ho3 hb4 (Nat.le_refl _)
        have t4 := below_then t3 hb4
        have hB4 := below_then hB1 t4
        obtain ⟨z, hz⟩ : ∃ z, stFrom g ⟨xe, xi⟩ = z := ⟨_, rfl⟩
        have hsx := HSX.out
        have hst := HST.out
        rw [hz] at hsx hst ⊢
        clear hz HSX HST
        by_cases hza : z = a
        · subst hza
          have hne : (z != z) = false := by simp
          obtain ⟨_, hy0⟩ := hst rfl
          have HOK2 := Lib.hid (show okUp g s l (k + 1) = true by rw [hsx, HOK.out]; simp)
          obtain ⟨y, hy⟩ : ∃ y, stTo g ⟨xe, xi⟩ = y := ⟨_, rfl⟩
          have hnx := HNX.out
          rw [hy] at hnx hy0
          have HNX2 := Lib.hid hnx
          have HY := Lib.hid hy
          have HLY := Lib.hid (show (nodesUp g s l (k + 1))[k + 1]? = some y by rw [hnx, List.getElem?_append_right (by rw [nodesUp_len (by rw [HLQ.out]; omega)]; omega), nodesUp_len (by rw [HLQ.out]; omega)]; simp)
          clear hnx hy hsx hst HKQ HNX
          go_wp2_with fail
          refine (implStepTo_is _ (h.up hB4) ⟨xe, xi⟩).mono ?_
          rw [HY.out]
          rintro r w5 ⟨rfl, hb5⟩
          have ho5 := own_below ho4 hb5 (Nat.le_refl _)
          have t5 := below_then t4 hb5
          have h15 := iv_one [y]
          have hz5 := t5.size
          clear ho4 t4 hB4 kA4 kB4 x04 x14 hcl4 hb5 hb4 ho3 t3
          go_wp2_with (at_builtin; refine ap_plain _ app_int (by decide) w1.heap.size (.tmp 48) (.tmp 52) rfl rfl _ _ _ rfl (ho5.alloc _) _ _ 1 1 _ rfl (reads_new _ rfl) h15 q3 (Nat.le_trans hz5 (by simp)) ?_; intro v6 w6 hown6 hg6 hat6; have t6 := below_grown_own (t5.alloc hz5 _) (ho5.alloc _) hg6 (Nat.le_refl _) (Nat.le_trans hz5 (by simp)); replace hown6 := own_snoc_int y rfl hown6; clear hg6 hat6)
          go_roundw
          case rel => exact ⟨k + 1, y, by omega, by go_num, by rw [HNX2.out]; exact hown6, HOK2.out, HLY.out, hy0, t6⟩
          case measure => simp [intOf]; omega
        · have hne : (z != a) = true := by simpa using hza
          have hf := HKQ.out (by rw [hsx]; simp [hza])
          have HNO := Lib.hid hf
          have HZ := Lib.hid (nodesZ_no hf)
          clear hf hza hsx hst HKQ
          go_wp2
          go_ret2
          exact ⟨_, _, _, by rw [HNO.out] <;> rfl, by rw [HZ.out]; exact (ris_nil _ _ _).wide hB4.size (Nat.le_refl _), hB4⟩
      · obtain rfl : k = q := by omega
        have hyes := HW1.out (by rw [HLQ.out]; exact HOK.out)
        have HYES := Lib.hid hyes
        have hnz := nodesZ_yes hyes
        rw [HLQ.out] at hnz
        rw [← hnz] at hown
        obtain ⟨A5, c5, rfl, _⟩ := own_form hown
        have RO := (RIs.of hown (by omega)).wide hB1.size (Nat.le_refl _)
        clear hyes hnz hlast
        go_wp2
        go_ret2
        exact ⟨_, _, _, by rw [HYES.out] <;> rfl, RO, hBr⟩
end Go.Proofs.Ytolilkbejghocaa
