/- Texts merged by program: WalkA, WalkB, WalkC, WalkD, Trail. -/
import Derived.Test.YtomkgnamjfiocaaGreatDoorBaseC
import Derived.IntWalk
namespace Go.Proofs.YtomkgnamjfiocaaGreatDoor
open Go.RowKit Go.ChangeShapes Go.WideShapes Go.ChangeAt Go.Deep
set_option linter.unusedVariables false
/-- The nodes of a walk's first k steps. -/
def nodesUp (g : G) (s : Int) (l : List St) (k : Nat) : List Int := s :: (l.take k).map (stTo g)
/-- Whether the first k steps fit. -/
def okUp (g : G) (s : Int) (l : List St) (k : Nat) : Bool := (List.range k).all fun j => match l[j]?, (s :: l.map (stTo g))[j]? with | some x, some a => stFrom g x == a | _, _ => true
def walkOk (g : G) (s : Int) (l : List St) : Bool := validG g && inB s 0 (g.vs.length - 1) && decide (l.length ≤ 60) && okUp g s l l.length
def nodesZ (g : G) (s : Int) (l : List St) : List Int := if walkOk g s l then nodesUp g s l l.length else []
theorem nodesUp_len {g : G} {s : Int} {l : List St} {k : Nat} (h : k ≤ l.length) : (nodesUp g s l k).length = k + 1 := by simp [nodesUp, Nat.min_eq_left h]
theorem nodesUp_zero (g : G) (s : Int) (l : List St) : nodesUp g s l 0 = [s] := rfl
theorem nodesUp_succ {g : G} {s : Int} {l : List St} {k : Nat} {x : St} (h : l[k]? = some x) : nodesUp g s l (k + 1) = nodesUp g s l k ++ [stTo g x] := by
  obtain ⟨hk, rfl⟩ := List.getElem?_eq_some_iff.1 h
  unfold nodesUp
  rw [List.take_succ_eq_append_getElem hk, List.map_append]
  rfl
theorem nodesUp_last {g : G} {s : Int} {l : List St} {k : Nat} (h : k ≤ l.length) : (nodesUp g s l k)[k]? = (s :: l.map (stTo g))[k]? := by
  unfold nodesUp
  cases k with
  | zero => rfl
  | succ k =>
    rw [List.getElem?_cons_succ, List.getElem?_cons_succ, List.getElem?_map, List.getElem?_map, List.getElem?_take, if_pos (by omega)]
theorem okUp_succ {g : G} {s : Int} {l : List St} {k : Nat} {x : St} {a : Int} (h : l[k]? = some x) (ha : (nodesUp g s l k)[k]? = some a) : okUp g s l (k + 1) = (okUp g s l k && (stFrom g x == a)) := by
  have hk := (List.getElem?_eq_some_iff.1 h).1
  rw [nodesUp_last (by omega)] at ha
  unfold okUp
  rw [List.range_succ, List.all_append]
  simp [h, ha]
theorem okUp_false {g : G} {s : Int} {l : List St} {q m : Nat} (h : okUp g s l (q + 1) = false) (hq : q < m) : okUp g s l m = false := by
  unfold okUp at *
  rw [List.all_eq_false] at *
  obtain ⟨x, hx, hf⟩ := h
  exact ⟨x, by rw [List.mem_range] at *; omega, hf⟩
/-- A step that begins at a node that is not negative has an edge, and it ends at such a node. -/
theorem stTo_nonneg {g : G} {x : St} {a : Int} (h : stFrom g x = a) (ha : 0 ≤ a) : (stE g x).2 = true ∧ 0 ≤ stTo g x := by
  unfold stFrom at h
  cases hk : (stE g x).2
  · rw [hk] at h
    simp at h
    omega
  · refine ⟨rfl, ?_⟩
    have hE : stE g ⟨x.ed, !x.inv⟩ = stE g x := rfl
    unfold stTo stFrom
    rw [hE, hk]
    have hb : 0 ≤ (stE g x).1.fr ∧ 0 ≤ (stE g x).1.to := by
      unfold stE at hk ⊢
      cases hv : validG g
      · simp [hv] at hk
      · simp only [hv, if_true] at hk ⊢
        cases he : g.es[ixN g.es x.ed]? with
        | none => simp [he] at hk
        | some e =>
          have := okE_bd (valid_edge hv he)
          simp only
          omega
    simp only [if_true]
    split
    · exact hb.2
    · exact hb.1
theorem walkOk_1 {g : G} {s : Int} {l : List St} (h : validG g = false) : walkOk g s l = false := by simp [walkOk, h]
theorem walkOk_2 {g : G} {s : Int} {l : List St} (h : inB s 0 (g.vs.length - 1) = false) : walkOk g s l = false := by simp [walkOk, h]
theorem walkOk_3 {g : G} {s : Int} {l : List St} (h : 60 < l.length) : walkOk g s l = false := by
  have : decide (l.length ≤ 60) = false := by simp; omega
  simp [walkOk, this]
theorem walkOk_4 {g : G} {s : Int} {l : List St} {k : Nat} (h : okUp g s l (k + 1) = false) (hk : k < l.length) : walkOk g s l = false := by simp [walkOk, okUp_false h hk]
theorem walkOk_5 {g : G} {s : Int} {l : List St} (h1 : validG g = true) (h2 : inB s 0 (g.vs.length - 1) = true) (h3 : l.length ≤ 60) (h4 : okUp g s l l.length = true) : walkOk g s l = true := by simp [walkOk, h1, h2, h3, h4]
theorem nodesZ_no {g : G} {s : Int} {l : List St} (h : walkOk g s l = false) : nodesZ g s l = [] := by simp [nodesZ, h]
theorem nodesZ_yes {g : G} {s : Int} {l : List St} (h : walkOk g s l = true) : nodesZ g s l = nodesUp g s l l.length := by simp [nodesZ, h]
theorem own_block {w : World} {base k size : Nat} {e : TypeId} {v : Value} {xs : List Value} (h : w.ownsRow base e size v (k + 1) xs) : ∃ b d, v = .slice (some ⟨b, 0, none⟩) (k + 1) d ∧ base ≤ b ∧ b < w.heap.size := by
  rcases id h.2 with ⟨_, h0⟩ | ⟨g1, cap, cur, hv, _⟩
  · omega
  · exact ⟨g1, cap, hv, ownBlock_some h (by rw [hv]; simp [Value.ownBlock])⟩
theorem ris_nil (w : World) (e : TypeId) (size : Nat) : RIs w w.heap.size w.heap.size e size none 0 0 [] := RIs.of (World.ownsRow_nil _ _ _ _) (by omega)
theorem own_snoc_int {w : World} {base n : Nat} {e : TypeId} {v x : Value} {L : List Int} (y : Int) (hx : x = iv y) (h : w.ownsRow base e 1 v (n + 1) (L.map iv ++ x.cells.toList)) : w.ownsRow base e 1 v (n + 1) ((L ++ [y]).map iv) := by
  subst hx
  rw [List.map_append]
  exact h
set_option maxRecDepth 4000 in
set_option maxHeartbeats 2000000 in
theorem nodesOf_is (w : World) {A B C : Option Addr} {n c m d q e : Nat} {g : G} (h : GRd w A n B m g) (s : Int) {l : List St} (h' : SRd w C q l) :
    Calls Tryz.prog 40 #[.agg #[.slice A n c, .slice B m d], .agg #[.int .i64 s, .slice C q e]] w fun r w' => ∃ A2 n2 c2, r = .returned (.tuple #[.slice A2 n2 c2, .bool (walkOk g s l)]) ∧ RIs w' w.heap.size w'.heap.size 3 1 A2 n2 c2 ((nodesZ g s l).map iv) ∧ Below w.heap.size w w' := by
  have hn := h.bn
  have hq := h'.bd
  have HLQ := Lib.hid h'.ln
  have HLN := Lib.hid h.gr.ln
  have hB0 : Below w.heap.size w ((w.alloc (.cells #[.slice A n c, .slice B m d] 27)).alloc (.cells #[.int .i64 s, .slice C q e] 30)) := ((Below.refl _ _).alloc (Nat.le_refl _) _).alloc (by simp) _
  have kA : ((w.alloc (.cells #[.slice A n c, .slice B m d] 27)).alloc (.cells #[.int .i64 s, .slice C q e] 30)).cell? ⟨w.heap.size, 0, none⟩ = some (.slice A n c) := by go_simp
  have kB : ((w.alloc (.cells #[.slice A n c, .slice B m d] 27)).alloc (.cells #[.int .i64 s, .slice C q e] 30)).cell? ⟨w.heap.size, 1, none⟩ = some (.slice B m d) := by go_simp
  have kS : ((w.alloc (.cells #[.slice A n c, .slice B m d] 27)).alloc (.cells #[.int .i64 s, .slice C q e] 30)).cell? ⟨w.heap.size + 1, 0, none⟩ = some (.int .i64 s) := by go_simp
  have kC : ((w.alloc (.cells #[.slice A n c, .slice B m d] 27)).alloc (.cells #[.int .i64 s, .slice C q e] 30)).cell? ⟨w.heap.size + 1, 1, none⟩ = some (.slice C q e) := by go_simp
  have hz0 : w.heap.size + 1 < ((w.alloc (.cells #[.slice A n c, .slice B m d] 27)).alloc (.cells #[.int .i64 s, .slice C q e] 30)).heap.size := by simp
  go_enter Tryz.func40, Tryz.ntmps40
  go_wp2_with fail
  generalize ((w.alloc (.cells #[.slice A n c, .slice B m d] 27)).alloc (.cells #[.int .i64 s, .slice C q e] 30)) = w0 at *
  refine (implValid_rd _ (h.up hB0)).mono ?_
  rintro r w1 ⟨rfl, hb1⟩
  have hB1 := below_then hB0 hb1
  have kA1 := cell_keep hb1 kA
  have kB1 := cell_keep hb1 kB
  have kS1 := cell_keep hb1 kS
  have kC1 := cell_keep hb1 kC
  have hz1 : w.heap.size + 1 < w1.heap.size := Nat.lt_of_lt_of_le hz0 hb1.size
  clear kA kB kS kC hb1
  have hcase : walkOk g s l = false ∧ (validG g = false ∨ (validG g = true ∧ inB s 0 ((n : Int) - 1) = false) ∨ (validG g = true ∧ inB s 0 ((n : Int) - 1) = true ∧ 60 < q)) ∨ (validG g = true ∧ inB s 0 ((n : Int) - 1) = true ∧ q ≤ 60) := by
    have h1 := HLN.out
    have h2 := HLQ.out
    cases hv : validG g
    · exact .inl ⟨walkOk_1 hv, .inl rfl⟩
    · cases hi : inB s 0 ((n : Int) - 1)
      · exact .inl ⟨walkOk_2 (by rw [h1]; exact hi), .inr (.inl ⟨rfl, rfl⟩)⟩
      · rcases Nat.lt_or_ge 60 q with h3 | h3
        · exact .inl ⟨walkOk_3 (by omega), .inr (.inr ⟨rfl, rfl, h3⟩)⟩
        · exact .inr ⟨rfl, rfl, h3⟩
  rcases hcase with ⟨hno, hw⟩ | ⟨hv, hi, hq60⟩
  · have HNO := Lib.hid hno
    have HZ := Lib.hid (nodesZ_no hno)
    clear hno
    rcases hw with hv | ⟨hv, hi⟩ | ⟨hv, hi, hj⟩
    · rw [hv]
      clear hv
      go_wp2
      go_ret2
      exact ⟨_, _, _, by rw [HNO.out] <;> rfl, by rw [HZ.out]; exact (ris_nil _ _ _).wide hB1.size (Nat.le_refl _), hB1⟩
    · rw [hv]
      have HI := Lib.hid hi
      clear hv hi
      go_wp2_with (go_at_call 55; refine (within_any _ _ _ _).mono ?_; rw [HI.out]; rintro e w' ⟨rfl, rfl⟩)
      go_ret2
      exact ⟨_, _, _, by rw [HNO.out] <;> rfl, by rw [HZ.out]; exact (ris_nil _ _ _).wide hB1.size (Nat.le_refl _), hB1⟩
    · rw [hv]
      have HI := Lib.hid hi
      clear hv hi
      go_wp2_with (go_at_call 55; refine (within_any _ _ _ _).mono ?_; rw [HI.out]; rintro e w' ⟨rfl, rfl⟩)
      go_ret2
      exact ⟨_, _, _, by rw [HNO.out] <;> rfl, by rw [HZ.out]; exact (ris_nil _ _ _).wide hB1.size (Nat.le_refl _), hB1⟩
  · have HW1 := Lib.hid (fun hk => walkOk_5 (g := g) (s := s) (l := l) hv (by rw [HLN.out]; exact hi) (by rw [HLQ.out]; exact hq60) hk)
    have hs0 : 0 ≤ s := (inB_true.1 hi).1
    rw [hv]
    have HI := Lib.hid hi
    have ho1 : (w1.alloc (.cells #[.int .i64 s] 3)).ownsRow w1.heap.size 3 1 (.slice (some ⟨w1.heap.size, 0, none⟩) 1 1) 1 ([s].map iv) := World.ownsRow_lit _ #[.int .i64 s] 1 (Nat.le_refl _) (by simp [maxLen]) rfl
    have hb2 : Below w1.heap.size w1 (w1.alloc (.cells #[.int .i64 s] 3)) := (Below.refl _ _).alloc (Nat.le_refl _) _
    clear hv hi
    go_wp2_with (go_at_call 55; refine (within_any _ _ _ _).mono ?_; rw [HI.out]; rintro e w' ⟨rfl, rfl⟩)
    go_loopw [6, 34] (fun v i wr => ∃ (k : Nat) (a : Int), k ≤ q ∧ i = .int .i64 k ∧ wr.ownsRow w1.heap.size 3 1 v (k + 1) ((nodesUp g s l k).map iv) ∧ okUp g s l k = true ∧ (nodesUp g s l k)[k]? = some a ∧ 0 ≤ a ∧ Below w1.heap.size w1 wr) (fun _ i _ => q - (intOf i).toNat)
    case atStart => exact ⟨0, s, Nat.zero_le _, rfl, ho1, rfl, rfl, hs0, hb2⟩
    case round =>
      obtain ⟨k, a, hk, rfl, hown, hok, hlast, ha0, t⟩ := hrel
      have HOK := Lib.hid hok
      have HLA := Lib.hid hlast
      have hBr := below_then hB1 t
      have kAr := cell_keep t kA1
      have kBr := cell_keep t kB1
      clear hok
      by_cases hlt : k < q
      · obtain ⟨b, o, rfl, had, x, hx, c0, c1⟩ := step_at (h'.up hBr).rd HLQ.out hlt
        have HSX := Lib.hid (okUp_succ hx hlast)
        have HNX := Lib.hid (nodesUp_succ (g := g) (s := s) hx)
        have HST := Lib.hid (fun hq => stTo_nonneg (g := g) (x := x) (a := a) hq ha0)
        have HLX := Lib.hid (nodesUp_len (g := g) (s := s) (l := l) (k := k + 1) (by rw [HLQ.out]; omega))
        have HKQ := Lib.hid (fun hf => walkOk_4 (g := g) (s := s) (l := l) (k := k) hf (by rw [HLQ.out]; omega))
        obtain ⟨b1, d1, rfl, hb1a, hb1b⟩ := own_block hown
        have hcl : wr.cell? ⟨b1, k, none⟩ = some (.int .i64 a) := by rw [hown.cellAt k (by omega), List.getElem?_map, hlast]; rfl
        have q3 : Small (k + 1 + 1) := small_of (by omega)
        clear hx hlast
        obtain ⟨xe, xi⟩ := x
        dsimp only at c0 c1
        have hb3 : Below wr.heap.size wr (wr.alloc (.cells #[.int .i64 xe, .bool xi] 68)) := (Below.refl _ _).alloc (Nat.le_refl _) _
        have x0 : (wr.alloc (.cells #[.int .i64 xe, .bool xi] 68)).cell? ⟨wr.heap.size, 0, none⟩ = some (.int .i64 xe) := by go_simp
        have x1 : (wr.alloc (.cells #[.int .i64 xe, .bool xi] 68)).cell? ⟨wr.heap.size, 1, none⟩ = some (.bool xi) := by go_simp
        have kA3 := cell_keep hb3 kAr
        have kB3 := cell_keep hb3 kBr
        have hcl3 := cell_keep hb3 hcl
        have ho3 := own_below hown hb3 (Nat.le_refl _)
        have t3 := below_then t hb3
        have hk1 : (0 : Int) ≤ (k : Int) := by omega
        have hk2 : (k : Int) < (k : Int) + 1 := by omega
        have hwr : IntKind.i64.wrap (k : Int) = (k : Int) := IntWalk.i64_in _ (by omega)
        clear kAr kBr hcl hown hBr hb3
        go_wp2_with fail
        generalize wr.heap.size = xb at *
        generalize (wr.alloc (.cells #[.int .i64 xe, .bool xi] 68)) = w3 at *
        have hbD : Below w3.heap.size w3 w3.drew := (Below.refl _ _).drew
        have tD := below_then t3 hbD
        have hBD := below_then hB1 tD
        go_region_held3 (fun w' => w'.cell? ⟨w.heap.size, 0, none⟩ = some (.slice A n c) ∧ w'.cell? ⟨w.heap.size, 1, none⟩ = some (.slice B m d) ∧ w'.cell? ⟨xb, 0, none⟩ = some (.int .i64 xe) ∧ w'.cell? ⟨xb, 1, none⟩ = some (.bool xi) ∧ w'.cell? ⟨b1, k, none⟩ = some (.int .i64 a)) (first | exact ⟨kA3, kB3, x0, x1, hcl3⟩ | exact ⟨kA4, kB4, x04, x14, hcl4⟩) (first
          | (go_simp; go_at_call 86; refine (implStepFrom_is _ (h.up hBD) ⟨xe, xi⟩).mono ?_; rintro r w4 ⟨rfl, hb4d⟩; have hb4 := below_then hbD hb4d; have kA4 := cell_keep hb4 kA3; have kB4 := cell_keep hb4 kB3; have x04 := cell_keep hb4 x0; have x14 := cell_keep hb4 x1; have hcl4 := cell_keep hb4 hcl3; dsimp only))
        clear hwr kA3 kB3 x0 x1 hcl3 hb4d
        have ho4 := own_below ho3 hb4 (Nat.le_refl _)
        have t4 := below_then t3 hb4
        have hB4 := below_then hB1 t4
        obtain ⟨z, hz⟩ : ∃ z, stFrom g ⟨xe, xi⟩ = z := ⟨_, rfl⟩
        have hsx := HSX.out
        have hst := HST.out
        rw [hz] at hsx hst ⊢
        clear hz HSX HST
        by_cases hza : z = a
        · subst hza
          have hne : (z != z) = false := by simp
          obtain ⟨_, hy0⟩ := hst rfl
          have HOK2 := Lib.hid (show okUp g s l (k + 1) = true by rw [hsx, HOK.out]; simp)
          obtain ⟨y, hy⟩ : ∃ y, stTo g ⟨xe, xi⟩ = y := ⟨_, rfl⟩
          have hnx := HNX.out
          rw [hy] at hnx hy0
          have HNX2 := Lib.hid hnx
          have HY := Lib.hid hy
          have HLY := Lib.hid (show (nodesUp g s l (k + 1))[k + 1]? = some y by rw [hnx, List.getElem?_append_right (by rw [nodesUp_len (by rw [HLQ.out]; omega)]; omega), nodesUp_len (by rw [HLQ.out]; omega)]; simp)
          clear hnx hy hsx hst HKQ HNX
          go_wp2_with fail
          refine (implStepTo_is _ (h.up hB4) ⟨xe, xi⟩).mono ?_
          rw [HY.out]
          rintro r w5 ⟨rfl, hb5⟩
          have ho5 := own_below ho4 hb5 (Nat.le_refl _)
          have t5 := below_then t4 hb5
          have h15 := iv_one [y]
          have hz5 := t5.size
          clear ho4 t4 hB4 kA4 kB4 x04 x14 hcl4 hb5 hb4 ho3 t3
          go_wp2_with (at_builtin; refine ap_plain _ app_int (by decide) w1.heap.size (.tmp 48) (.tmp 52) rfl rfl _ _ _ rfl (ho5.alloc _) _ _ 1 1 _ rfl (reads_new _ rfl) h15 q3 (Nat.le_trans hz5 (by simp)) ?_; intro v6 w6 hown6 hg6 hat6; have t6 := below_grown_own (t5.alloc hz5 _) (ho5.alloc _) hg6 (Nat.le_refl _) (Nat.le_trans hz5 (by simp)); replace hown6 := own_snoc_int y rfl hown6; clear hg6 hat6)
          go_roundw
          case rel => exact ⟨k + 1, y, by omega, by go_num, by rw [HNX2.out]; exact hown6, HOK2.out, HLY.out, hy0, t6⟩
          case measure => simp [intOf]; omega
        · have hne : (z != a) = true := by simpa using hza
          have hf := HKQ.out (by rw [hsx]; simp [hza])
          have HNO := Lib.hid hf
          have HZ := Lib.hid (nodesZ_no hf)
          clear hf hza hsx hst HKQ
          go_wp2
          go_ret2
          exact ⟨_, _, _, by rw [HNO.out] <;> rfl, by rw [HZ.out]; exact (ris_nil _ _ _).wide hB4.size (Nat.le_refl _), hB4⟩
      · obtain rfl : k = q := by omega
        have hyes := HW1.out (by rw [HLQ.out]; exact HOK.out)
        have HYES := Lib.hid hyes
        have hnz := nodesZ_yes hyes
        rw [HLQ.out] at hnz
        rw [← hnz] at hown
        obtain ⟨A5, c5, rfl, _⟩ := own_form hown
        have RO := (RIs.of hown (by omega)).wide hB1.size (Nat.le_refl _)
        clear hyes hnz hlast
        go_wp2
        go_ret2
        exact ⟨_, _, _, by rw [HYES.out] <;> rfl, RO, hBr⟩
end Go.Proofs.YtomkgnamjfiocaaGreatDoor
namespace Go.Proofs.YtomkgnamjfiocaaGreatDoor
open Go.RowKit Go.ChangeShapes Go.WideShapes Go.ChangeAt Go.Deep
set_option linter.unusedVariables false
theorem ris_made (w : World) (e : TypeId) (size : Nat) : RIs (w.alloc (.cells #[] e)) w.heap.size (w.alloc (.cells #[] e)).heap.size e size (some ⟨w.heap.size, 0, none⟩) 0 0 [] := RIs.of (own_made e size (Nat.le_refl _)) (by omega)
set_option maxRecDepth 4000 in
set_option maxHeartbeats 2000000 in
theorem l5Nodes_is (w : World) {A B C : Option Addr} {n c m d q e : Nat} {g : G} (h : GRd w A n B m g) (s : Int) {l : List St} (h' : SRd w C q l) :
    Calls Tryz.prog 41 #[.agg #[.slice A n c, .slice B m d], .agg #[.int .i64 s, .slice C q e]] w fun r w' => ∃ A2 n2 c2, r = .returned (.tuple #[.slice A2 n2 c2, .bool (walkOk g s l)]) ∧ RIs w' w.heap.size w'.heap.size 3 1 A2 n2 c2 ((nodesZ g s l).map iv) ∧ Below w.heap.size w w' := by
  have hn := h.bn
  have hq := h'.bd
  have HLQ := Lib.hid h'.ln
  have HLN := Lib.hid h.gr.ln
  have hB0 : Below w.heap.size w ((w.alloc (.cells #[.slice A n c, .slice B m d] 27)).alloc (.cells #[.int .i64 s, .slice C q e] 30)) := ((Below.refl _ _).alloc (Nat.le_refl _) _).alloc (by simp) _
  have kA : ((w.alloc (.cells #[.slice A n c, .slice B m d] 27)).alloc (.cells #[.int .i64 s, .slice C q e] 30)).cell? ⟨w.heap.size, 0, none⟩ = some (.slice A n c) := by go_simp
  have kB : ((w.alloc (.cells #[.slice A n c, .slice B m d] 27)).alloc (.cells #[.int .i64 s, .slice C q e] 30)).cell? ⟨w.heap.size, 1, none⟩ = some (.slice B m d) := by go_simp
  have kS : ((w.alloc (.cells #[.slice A n c, .slice B m d] 27)).alloc (.cells #[.int .i64 s, .slice C q e] 30)).cell? ⟨w.heap.size + 1, 0, none⟩ = some (.int .i64 s) := by go_simp
  have kC : ((w.alloc (.cells #[.slice A n c, .slice B m d] 27)).alloc (.cells #[.int .i64 s, .slice C q e] 30)).cell? ⟨w.heap.size + 1, 1, none⟩ = some (.slice C q e) := by go_simp
  have hz0 : w.heap.size + 1 < ((w.alloc (.cells #[.slice A n c, .slice B m d] 27)).alloc (.cells #[.int .i64 s, .slice C q e] 30)).heap.size := by simp
  go_enter Tryz.func41, Tryz.ntmps41
  go_wp2_with fail
  generalize ((w.alloc (.cells #[.slice A n c, .slice B m d] 27)).alloc (.cells #[.int .i64 s, .slice C q e] 30)) = w0 at *
  refine (specValid_rd _ (h.up hB0)).mono ?_
  rintro r w1 ⟨rfl, hb1⟩
  have hB1 := below_then hB0 hb1
  have kA1 := cell_keep hb1 kA
  have kB1 := cell_keep hb1 kB
  have kS1 := cell_keep hb1 kS
  have kC1 := cell_keep hb1 kC
  have hz1 : w.heap.size + 1 < w1.heap.size := Nat.lt_of_lt_of_le hz0 hb1.size
  clear kA kB kS kC hb1
  have hcase : walkOk g s l = false ∧ (validG g = false ∨ (validG g = true ∧ inB s 0 ((n : Int) - 1) = false) ∨ (validG g = true ∧ inB s 0 ((n : Int) - 1) = true ∧ 60 < q)) ∨ (validG g = true ∧ inB s 0 ((n : Int) - 1) = true ∧ q ≤ 60) := by
    have h1 := HLN.out
    have h2 := HLQ.out
    cases hv : validG g
    · exact .inl ⟨walkOk_1 hv, .inl rfl⟩
    · cases hi : inB s 0 ((n : Int) - 1)
      · exact .inl ⟨walkOk_2 (by rw [h1]; exact hi), .inr (.inl ⟨rfl, rfl⟩)⟩
      · rcases Nat.lt_or_ge 60 q with h3 | h3
        · exact .inl ⟨walkOk_3 (by omega), .inr (.inr ⟨rfl, rfl, h3⟩)⟩
        · exact .inr ⟨rfl, rfl, h3⟩
  rcases hcase with ⟨hno, hw⟩ | ⟨hv, hi, hq60⟩
  · have HNO := Lib.hid hno
    have HZ := Lib.hid (nodesZ_no hno)
    clear hno
    rcases hw with hv | ⟨hv, hi⟩ | ⟨hv, hi, hj⟩
    · rw [hv]
      clear hv
      go_wp2
      go_ret2
      exact ⟨_, _, _, by rw [HNO.out] <;> rfl, by rw [HZ.out]; exact (ris_made _ _ _).wide hB1.size (Nat.le_refl _), hB1.alloc hB1.size _⟩
    · rw [hv]
      have HI := Lib.hid hi
      clear hv hi
      go_wp2_with (go_at_call 88; refine (l1In_any _ _ _ _).mono ?_; rw [HI.out]; rintro e w' ⟨rfl, rfl⟩)
      go_ret2
      exact ⟨_, _, _, by rw [HNO.out] <;> rfl, by rw [HZ.out]; exact (ris_made _ _ _).wide hB1.size (Nat.le_refl _), hB1.alloc hB1.size _⟩
    · rw [hv]
      have HI := Lib.hid hi
      clear hv hi
      go_wp2_with (go_at_call 88; refine (l1In_any _ _ _ _).mono ?_; rw [HI.out]; rintro e w' ⟨rfl, rfl⟩)
      go_ret2
      exact ⟨_, _, _, by rw [HNO.out] <;> rfl, by rw [HZ.out]; exact (ris_made _ _ _).wide hB1.size (Nat.le_refl _), hB1.alloc hB1.size _⟩
  · have HW1 := Lib.hid (fun hk => walkOk_5 (g := g) (s := s) (l := l) hv (by rw [HLN.out]; exact hi) (by rw [HLQ.out]; exact hq60) hk)
    have hs0 : 0 ≤ s := (inB_true.1 hi).1
    have HV := Lib.hid hv
    rw [hv]
    have HI := Lib.hid hi
    have ho1 : (w1.alloc (.cells #[.int .i64 s] 3)).ownsRow w1.heap.size 3 1 (.slice (some ⟨w1.heap.size, 0, none⟩) 1 1) 1 ([s].map iv) := World.ownsRow_lit _ #[.int .i64 s] 1 (Nat.le_refl _) (by simp [maxLen]) rfl
    have hb2 : Below w1.heap.size w1 (w1.alloc (.cells #[.int .i64 s] 3)) := (Below.refl _ _).alloc (Nat.le_refl _) _
    clear hv hi
    go_wp2_with (go_at_call 88; refine (l1In_any _ _ _ _).mono ?_; rw [HI.out]; rintro e w' ⟨rfl, rfl⟩)
    go_loopw [6, 7] (fun v i wr => ∃ (k : Nat) (a : Int), k ≤ q ∧ i = .int .i64 k ∧ wr.ownsRow w1.heap.size 3 1 v (k + 1) ((nodesUp g s l k).map iv) ∧ okUp g s l k = true ∧ (nodesUp g s l k)[k]? = some a ∧ 0 ≤ a ∧ Below w1.heap.size w1 wr) (fun _ i _ => q - (intOf i).toNat)
    case atStart => exact ⟨0, s, Nat.zero_le _, rfl, ho1, rfl, rfl, hs0, hb2⟩
    case round =>
      obtain ⟨k, a, hk, rfl, hown, hok, hlast, ha0, t⟩ := hrel
      have HOK := Lib.hid hok
      have HLA := Lib.hid hlast
      have hBr := below_then hB1 t
      have kAr := cell_keep t kA1
      have kBr := cell_keep t kB1
      have kCr := cell_keep t kC1
      clear hok
      by_cases hlt : k < q
      · obtain ⟨b, o, rfl, had, x, hx, c0, c1⟩ := step_at (h'.up hBr).rd HLQ.out hlt
        have HSX := Lib.hid (okUp_succ hx hlast)
        have HNX := Lib.hid (nodesUp_succ (g := g) (s := s) hx)
        have HST := Lib.hid (fun hq => stTo_nonneg (g := g) (x := x) (a := a) hq ha0)
        have HKQ := Lib.hid (fun hf => walkOk_4 (g := g) (s := s) (l := l) (k := k) hf (by rw [HLQ.out]; omega))
        have HSC := Lib.hid (fun w' (hb : Below w.heap.size w w') => step_cells (h'.up hb).rd hx)
        obtain ⟨b1, d1, rfl, hb1a, hb1b⟩ := own_block hown
        have hcl : wr.cell? ⟨b1, k, none⟩ = some (.int .i64 a) := by rw [hown.cellAt k (by omega), List.getElem?_map, hlast]; rfl
        have q3 : Small (k + 1 + 1) := small_of (by omega)
        clear hx hlast
        obtain ⟨xe, xi⟩ := x
        dsimp only at c0 c1
        have hlt' : (k : Int) < q := by omega
        have hk1 : (0 : Int) ≤ (k : Int) := by omega
        go_wp2_with fail
        have hbD : Below wr.heap.size wr wr.drew := (Below.refl _ _).drew
        have tD := below_then t hbD
        have hBD := below_then hB1 tD
        go_region_held3 (fun w' => w'.cell? ⟨w.heap.size, 0, none⟩ = some (.slice A n c) ∧ w'.cell? ⟨w.heap.size, 1, none⟩ = some (.slice B m d) ∧ w'.cell? ⟨w.heap.size + 1, 1, none⟩ = some (.slice (some ⟨b, o, none⟩) q e) ∧ w'.cell? ⟨b, o + k * 2, none⟩ = some (.int .i64 xe)) (first | exact ⟨kAr, kBr, kCr, c0⟩ | exact ⟨kA4, kB4, kC4, c04⟩) (first
          | (go_simp; go_at_call 89; refine (specEdgeIx_rd _ (h.up hBD) xe).mono ?_; rintro r w4 ⟨rfl, hb4d⟩; have hb4 := below_then hbD hb4d; have kA4 := cell_keep hb4 kAr; have kB4 := cell_keep hb4 kBr; have kC4 := cell_keep hb4 kCr; have c04 := cell_keep hb4 c0; dsimp only))
        have c14 := cell_keep hb4 c1
        have hcl4 := cell_keep hb4 hcl
        have ho4 := own_below hown hb4 (Nat.le_refl _)
        have t4 := below_then t hb4
        have hB4 := below_then hB1 t4
        clear hown hcl kAr kBr kCr c0 c1 hb4d hbD tD hBD
        by_cases hix : ixN g.es xe < g.es.length
        rotate_left
        · have hE : ixE g.es xe = -1 := by unfold ixE; rw [if_neg hix]
          have hS : stFrom g ⟨xe, xi⟩ = -1 := by unfold stFrom; rw [stE_no1 (s := ⟨xe, xi⟩) hix]; rfl
          have hsx := HSX.out
          rw [hS] at hsx
          have hf := HKQ.out (by rw [hsx]; have : (-1 == a) = false := by simp; omega
                                 rw [this]; simp)
          have HNO := Lib.hid hf
          have HZ := Lib.hid (nodesZ_no hf)
          rw [hE]
          clear hf hsx hS hE hix HKQ
          go_wp2
          go_ret2
          exact ⟨_, _, _, by rw [HNO.out] <;> rfl, by rw [HZ.out]; exact (ris_made _ _ _).wide hB4.size (Nat.le_refl _), hB4.alloc hB4.size _⟩
        · have hE : ixE g.es xe = (ixN g.es xe : Int) := by unfold ixE; rw [if_pos hix]
          rw [hE]
          obtain ⟨j, hj⟩ : ∃ j, ixN g.es xe = j := ⟨_, rfl⟩
          obtain ⟨y, hy⟩ : ∃ y, g.es[ixN g.es xe]? = some y := ⟨_, List.getElem?_eq_getElem hix⟩
          have hSE : stE g ⟨xe, xi⟩ = (y, true) := stE_yes HV.out hy
          rw [hj] at hix hy ⊢
          have hjm : j < m := by have := h.gr.lm; omega
          have hjm' : (j : Int) < m := by omega
          have hj0 : (0 : Int) ≤ (j : Int) := by omega
          obtain ⟨b9, o9, rfl, had9, y2, hy2, d0, d1', d2, d3⟩ := edge_at (h.up hB4).gr.re h.gr.lm hjm
          obtain rfl : y = y2 := by rw [hy] at hy2; simpa using hy2
          have hF : stFrom g ⟨xe, xi⟩ = if xi then y.to else y.fr := by unfold stFrom; rw [hSE]; rfl
          have hT : stTo g ⟨xe, xi⟩ = if xi then y.fr else y.to := by
            have hE2 : stE g ⟨xe, !xi⟩ = stE g ⟨xe, xi⟩ := rfl
            unfold stTo stFrom
            rw [hE2, hSE]
            cases xi <;> rfl
          have HF := Lib.hid hF
          have HT := Lib.hid hT
          have hsx := HSX.out
          have hst := HST.out
          clear hE hj hy hy2 hSE hF hT HSX HST d0 d3 hix
          cases xi
          · have hFF := HF.out
            have hTT := HT.out
            rw [if_neg Bool.false_ne_true] at hFF hTT
            rw [hFF] at hsx hst
            have HTT := Lib.hid hTT
            clear hFF hTT HF HT
            by_cases hza : y.fr = a
            · have hne : (y.fr != a) = false := by simp [hza]
              obtain ⟨_, hy0⟩ := hst hza
              rw [HTT.out] at hy0
              have HOK2 := Lib.hid (show okUp g s l (k + 1) = true by rw [hsx, HOK.out, hza]; simp)
              have hnx := HNX.out
              rw [HTT.out] at hnx
              have HNX2 := Lib.hid hnx
              have HLY := Lib.hid (show (nodesUp g s l (k + 1))[k + 1]? = some (y.to) by rw [hnx, List.getElem?_append_right (by rw [nodesUp_len (by rw [HLQ.out]; omega)]; omega), nodesUp_len (by rw [HLQ.out]; omega)]; simp)
              have h15 := iv_one [y.to]
              have hz4 := t4.size
              clear hnx hsx hst HKQ HNX hza
              go_wp2_with (at_builtin; refine ap_plain _ app_int (by decide) w1.heap.size (.tmp 91) (.tmp 93) rfl rfl _ _ _ rfl (ho4.alloc _) _ _ 1 1 _ rfl (reads_new _ rfl) h15 q3 (Nat.le_trans hz4 (by simp)) ?_; intro v6 w6 hown6 hg6 hat6; have t6 := below_grown_own (t4.alloc hz4 _) (ho4.alloc _) hg6 (Nat.le_refl _) (Nat.le_trans hz4 (by simp)); replace hown6 := own_snoc_int (y.to) rfl hown6; clear hg6 hat6)
              go_roundw
              case rel => exact ⟨k + 1, y.to, by omega, by go_num, by rw [HNX2.out]; exact hown6, HOK2.out, HLY.out, hy0, t6⟩
              case measure => simp [intOf]; omega
            · have hne : (y.fr != a) = true := by simpa using hza
              have hf := HKQ.out (by rw [hsx]; simp [hza])
              have HNO := Lib.hid hf
              have HZ := Lib.hid (nodesZ_no hf)
              clear hf hza hsx hst HKQ
              go_wp2
              go_ret2
              exact ⟨_, _, _, by rw [HNO.out] <;> rfl, by rw [HZ.out]; exact (ris_made _ _ _).wide hB4.size (Nat.le_refl _), hB4.alloc hB4.size _⟩
          · have hFF := HF.out
            have hTT := HT.out
            rw [if_pos rfl] at hFF hTT
            rw [hFF] at hsx hst
            have HTT := Lib.hid hTT
            clear hFF hTT HF HT
            by_cases hza : y.to = a
            · have hne : (y.to != a) = false := by simp [hza]
              obtain ⟨_, hy0⟩ := hst hza
              rw [HTT.out] at hy0
              have HOK2 := Lib.hid (show okUp g s l (k + 1) = true by rw [hsx, HOK.out, hza]; simp)
              have hnx := HNX.out
              rw [HTT.out] at hnx
              have HNX2 := Lib.hid hnx
              have HLY := Lib.hid (show (nodesUp g s l (k + 1))[k + 1]? = some (y.fr) by rw [hnx, List.getElem?_append_right (by rw [nodesUp_len (by rw [HLQ.out]; omega)]; omega), nodesUp_len (by rw [HLQ.out]; omega)]; simp)
              have h15 := iv_one [y.fr]
              have hz4 := t4.size
              clear hnx hsx hst HKQ HNX hza
              go_wp2_with (at_builtin; refine ap_plain _ app_int (by decide) w1.heap.size (.tmp 91) (.tmp 93) rfl rfl _ _ _ rfl (ho4.alloc _) _ _ 1 1 _ rfl (reads_new _ rfl) h15 q3 (Nat.le_trans hz4 (by simp)) ?_; intro v6 w6 hown6 hg6 hat6; have t6 := below_grown_own (t4.alloc hz4 _) (ho4.alloc _) hg6 (Nat.le_refl _) (Nat.le_trans hz4 (by simp)); replace hown6 := own_snoc_int (y.fr) rfl hown6; clear hg6 hat6)
              go_roundw
              case rel => exact ⟨k + 1, y.fr, by omega, by go_num, by rw [HNX2.out]; exact hown6, HOK2.out, HLY.out, hy0, t6⟩
              case measure => simp [intOf]; omega
            · have hne : (y.to != a) = true := by simpa using hza
              have hf := HKQ.out (by rw [hsx]; simp [hza])
              have HNO := Lib.hid hf
              have HZ := Lib.hid (nodesZ_no hf)
              clear hf hza hsx hst HKQ
              go_wp2
              go_ret2
              exact ⟨_, _, _, by rw [HNO.out] <;> rfl, by rw [HZ.out]; exact (ris_made _ _ _).wide hB4.size (Nat.le_refl _), hB4.alloc hB4.size _⟩
      · obtain rfl : k = q := by omega
        have hyes := HW1.out (by rw [HLQ.out]; exact HOK.out)
        have HYES := Lib.hid hyes
        have hnz := nodesZ_yes hyes
        rw [HLQ.out] at hnz
        rw [← hnz] at hown
        obtain ⟨A5, c5, rfl, _⟩ := own_form hown
        have RO := (RIs.of hown (by omega)).wide hB1.size (Nat.le_refl _)
        clear hyes hnz hlast
        go_wp2
        go_ret2
        exact ⟨_, _, _, by rw [HYES.out] <;> rfl, RO, hBr⟩
end Go.Proofs.YtomkgnamjfiocaaGreatDoor
namespace Go.Proofs.YtomkgnamjfiocaaGreatDoor
open Go.RowKit Go.ChangeShapes Go.WideShapes Go.ChangeAt Go.Deep
set_option linter.unusedVariables false
def endZ (g : G) (s : Int) (l : List St) : Int := if walkOk g s l then ((nodesZ g s l)[l.length]?).getD 0 else -1
theorem nodesZ_len {g : G} {s : Int} {l : List St} (h : walkOk g s l = true) : (nodesZ g s l).length = l.length + 1 := by rw [nodesZ_yes h, nodesUp_len (Nat.le_refl _)]
theorem endZ_no {g : G} {s : Int} {l : List St} (h : walkOk g s l = false) : endZ g s l = -1 := by simp [endZ, h]
theorem endZ_at {g : G} {s : Int} {l : List St} (h : walkOk g s l = true) : (nodesZ g s l)[l.length]? = some (endZ g s l) := by
  have hl := nodesZ_len h
  unfold endZ
  rw [h, if_pos rfl, List.getElem?_eq_getElem (by omega)]
  rfl
set_option maxRecDepth 4000 in
theorem implIsValidWalk_is (w : World) {A B C : Option Addr} {n c m d q e : Nat} {g : G} (h : GRd w A n B m g) (s : Int) {l : List St} (h' : SRd w C q l) :
    Calls Tryz.prog 10 #[.agg #[.slice A n c, .slice B m d], .agg #[.int .i64 s, .slice C q e]] w fun r w' => r = .returned (.bool (walkOk g s l)) ∧ Below w.heap.size w w' := by
  have hB0 : Below w.heap.size w ((w.alloc (.cells #[.slice A n c, .slice B m d] 27)).alloc (.cells #[.int .i64 s, .slice C q e] 30)) := ((Below.refl _ _).alloc (Nat.le_refl _) _).alloc (by simp) _
  go_enter Tryz.func10, Tryz.ntmps10
  go_wp2_with fail
  refine (nodesOf_is _ (h.up hB0) s (h'.up hB0)).mono ?_
  rintro r w1 ⟨A1, n1, c1, rfl, O, hb1⟩
  go_wp2
  go_ret
  exact ⟨rfl, below_then hB0 hb1⟩
set_option maxRecDepth 4000 in
theorem implWalkNodes_is (w : World) {A B C : Option Addr} {n c m d q e : Nat} {g : G} (h : GRd w A n B m g) (s : Int) {l : List St} (h' : SRd w C q l) :
    Calls Tryz.prog 11 #[.agg #[.slice A n c, .slice B m d], .agg #[.int .i64 s, .slice C q e]] w fun r w' => ∃ A2 n2 c2, r = .returned (.slice A2 n2 c2) ∧ RIs w' w.heap.size w'.heap.size 3 1 A2 n2 c2 ((nodesZ g s l).map iv) ∧ Below w.heap.size w w' := by
  have hB0 : Below w.heap.size w ((w.alloc (.cells #[.slice A n c, .slice B m d] 27)).alloc (.cells #[.int .i64 s, .slice C q e] 30)) := ((Below.refl _ _).alloc (Nat.le_refl _) _).alloc (by simp) _
  go_enter Tryz.func11, Tryz.ntmps11
  go_wp2_with fail
  refine (nodesOf_is _ (h.up hB0) s (h'.up hB0)).mono ?_
  rintro r w1 ⟨A1, n1, c1, rfl, O, hb1⟩
  go_wp2
  go_ret
  exact ⟨_, _, _, rfl, O.wide hB0.size (Nat.le_refl _), below_then hB0 hb1⟩
set_option maxRecDepth 4000 in
set_option maxHeartbeats 400000 in
theorem implWalkEnd_is (w : World) {A B C : Option Addr} {n c m d q e : Nat} {g : G} (h : GRd w A n B m g) (s : Int) {l : List St} (h' : SRd w C q l) :
    Calls Tryz.prog 17 #[.agg #[.slice A n c, .slice B m d], .agg #[.int .i64 s, .slice C q e]] w fun r w' => r = .returned (.int .i64 (endZ g s l)) ∧ Below w.heap.size w w' := by
  have hB0 : Below w.heap.size w ((w.alloc (.cells #[.slice A n c, .slice B m d] 27)).alloc (.cells #[.int .i64 s, .slice C q e] 30)) := ((Below.refl _ _).alloc (Nat.le_refl _) _).alloc (by simp) _
  have hend := endZ_at (g := g) (s := s) (l := l)
  have hno := endZ_no (g := g) (s := s) (l := l)
  have hlen := nodesZ_len (g := g) (s := s) (l := l)
  obtain ⟨ok, hok⟩ : ∃ ok, walkOk g s l = ok := ⟨_, rfl⟩
  rw [hok] at hend hno hlen
  have HE := Lib.hid hend
  have HN := Lib.hid hno
  have HL := Lib.hid hlen
  have HOK := Lib.hid hok
  clear hend hno hlen hok
  go_enter Tryz.func17, Tryz.ntmps17
  go_wp2_with fail
  refine (nodesOf_is _ (h.up hB0) s (h'.up hB0)).mono ?_
  rw [HOK.out]
  rintro r w1 ⟨A1, n1, c1, rfl, O, hb1⟩
  have hB1 := below_then hB0 hb1
  cases ok
  · have HX := Lib.hid (HN.out rfl)
    clear hb1
    go_wp2
    go_ret
    exact ⟨by rw [HX.out] <;> rfl, hB1⟩
  · have hl := HL.out rfl
    have hn1 : n1 = l.length + 1 := by have := O.len; rw [List.length_map] at this; omega
    obtain ⟨b1, rfl, _, _⟩ := O.at_ (by omega)
    have he := HE.out rfl
    have hbd := O.bd
    have hcl : w1.cell? ⟨b1, l.length, none⟩ = some (.int .i64 (endZ g s l)) := O.cell (by rw [List.getElem?_map, he]; rfl)
    obtain ⟨k, hk⟩ : ∃ k, l.length = k := ⟨_, rfl⟩
    rw [hk] at hn1 hcl
    subst hn1
    clear hl he hk hb1
    go_wp2
    go_ret
    exact ⟨rfl, hB1⟩
set_option maxRecDepth 4000 in
theorem specIsValidWalk_is (w : World) {A B C : Option Addr} {n c m d q e : Nat} {g : G} (h : GRd w A n B m g) (s : Int) {l : List St} (h' : SRd w C q l) :
    Calls Tryz.prog 45 #[.agg #[.slice A n c, .slice B m d], .agg #[.int .i64 s, .slice C q e]] w fun r w' => r = .returned (.bool (walkOk g s l)) ∧ Below w.heap.size w w' := by
  have hB0 : Below w.heap.size w ((w.alloc (.cells #[.slice A n c, .slice B m d] 27)).alloc (.cells #[.int .i64 s, .slice C q e] 30)) := ((Below.refl _ _).alloc (Nat.le_refl _) _).alloc (by simp) _
  go_enter Tryz.func45, Tryz.ntmps45
  go_wp2_with fail
  refine (l5Nodes_is _ (h.up hB0) s (h'.up hB0)).mono ?_
  rintro r w1 ⟨A1, n1, c1, rfl, O, hb1⟩
  go_wp2
  go_ret
  exact ⟨rfl, below_then hB0 hb1⟩
set_option maxRecDepth 4000 in
theorem specWalkNodes_is (w : World) {A B C : Option Addr} {n c m d q e : Nat} {g : G} (h : GRd w A n B m g) (s : Int) {l : List St} (h' : SRd w C q l) :
    Calls Tryz.prog 13 #[.agg #[.slice A n c, .slice B m d], .agg #[.int .i64 s, .slice C q e]] w fun r w' => ∃ A2 n2 c2, r = .returned (.slice A2 n2 c2) ∧ RIs w' w.heap.size w'.heap.size 3 1 A2 n2 c2 ((nodesZ g s l).map iv) ∧ Below w.heap.size w w' := by
  have hB0 : Below w.heap.size w ((w.alloc (.cells #[.slice A n c, .slice B m d] 27)).alloc (.cells #[.int .i64 s, .slice C q e] 30)) := ((Below.refl _ _).alloc (Nat.le_refl _) _).alloc (by simp) _
  go_enter Tryz.func13, Tryz.ntmps13
  go_wp2_with fail
  refine (l5Nodes_is _ (h.up hB0) s (h'.up hB0)).mono ?_
  rintro r w1 ⟨A1, n1, c1, rfl, O, hb1⟩
  go_wp2
  go_ret
  exact ⟨_, _, _, rfl, O.wide hB0.size (Nat.le_refl _), below_then hB0 hb1⟩
end Go.Proofs.YtomkgnamjfiocaaGreatDoor
namespace Go.Proofs.YtomkgnamjfiocaaGreatDoor
open Go.RowKit Go.ChangeShapes Go.WideShapes Go.ChangeAt Go.Deep
set_option linter.unusedVariables false
def wordZ (g : G) (s : Int) (l : List St) : List Int := if walkOk g s l then l.map (stLet g) else []
theorem below_of_tch {lo : Nat} {w w' : World} (h : Tch lo lo w w') : Below w.heap.size w w' := ⟨h.os, h.tape, h.output, h.size, fun k hk => h.block k hk (by omega)⟩
def OkIf (k : Nat) (ok : Bool) : Prop := 0 < k → ok = true
theorem wordZ_no {g : G} {s : Int} {l : List St} (h : walkOk g s l = false) : wordZ g s l = [] := by simp [wordZ, h]
theorem wordZ_yes {g : G} {s : Int} {l : List St} (h : walkOk g s l = true) : wordZ g s l = l.map (stLet g) := by simp [wordZ, h]
theorem map_take_succ {α β : Type} (f : α → β) {l : List α} {k : Nat} {x : α} (h : l[k]? = some x) : (l.take (k + 1)).map f = (l.take k).map f ++ [f x] := by
  obtain ⟨hk, rfl⟩ := List.getElem?_eq_some_iff.1 h
  rw [List.take_succ_eq_append_getElem hk, List.map_append]
  rfl
set_option maxRecDepth 4000 in
set_option maxHeartbeats 2000000 in
theorem implWalkWord_is (w : World) {A B C : Option Addr} {n c m d q e : Nat} {g : G} (h : GRd w A n B m g) (s : Int) {l : List St} (h' : SRd w C q l) :
    Calls Tryz.prog 18 #[.agg #[.slice A n c, .slice B m d], .agg #[.int .i64 s, .slice C q e]] w fun r w' => ∃ A2 n2 c2, r = .returned (.slice A2 n2 c2) ∧ RIs w' w.heap.size w'.heap.size 3 1 A2 n2 c2 ((wordZ g s l).map iv) ∧ Below w.heap.size w w' := by
  have hq := h'.bd
  have HLQ := Lib.hid h'.ln
  have hB0 : Below w.heap.size w ((w.alloc (.cells #[.slice A n c, .slice B m d] 27)).alloc (.cells #[.int .i64 s, .slice C q e] 30)) := ((Below.refl _ _).alloc (Nat.le_refl _) _).alloc (by simp) _
  have kA : ((w.alloc (.cells #[.slice A n c, .slice B m d] 27)).alloc (.cells #[.int .i64 s, .slice C q e] 30)).cell? ⟨w.heap.size, 0, none⟩ = some (.slice A n c) := by go_simp
  have kB : ((w.alloc (.cells #[.slice A n c, .slice B m d] 27)).alloc (.cells #[.int .i64 s, .slice C q e] 30)).cell? ⟨w.heap.size, 1, none⟩ = some (.slice B m d) := by go_simp
  have kC : ((w.alloc (.cells #[.slice A n c, .slice B m d] 27)).alloc (.cells #[.int .i64 s, .slice C q e] 30)).cell? ⟨w.heap.size + 1, 1, none⟩ = some (.slice C q e) := by go_simp
  have HN := Lib.hid (wordZ_no (g := g) (s := s) (l := l))
  have HY := Lib.hid (wordZ_yes (g := g) (s := s) (l := l))
  go_enter Tryz.func18, Tryz.ntmps18
  go_wp2_with fail
  generalize ((w.alloc (.cells #[.slice A n c, .slice B m d] 27)).alloc (.cells #[.int .i64 s, .slice C q e] 30)) = w0 at *
  refine (implIsValidWalk_is _ (h.up hB0) s (h'.up hB0)).mono ?_
  rintro r w1 ⟨rfl, hb1⟩
  have hB1 := below_then hB0 hb1
  have kA1 := cell_keep hb1 kA
  have kB1 := cell_keep hb1 kB
  have kC1 := cell_keep hb1 kC
  clear kA kB kC hb1
  cases hok : walkOk g s l
  · have HX := Lib.hid (HN.out hok)
    clear hok
    go_wp2
    go_ret
    exact ⟨_, _, _, rfl, by rw [HX.out]; exact (ris_nil _ _ _).wide hB1.size (Nat.le_refl _), hB1⟩
  · have HX := Lib.hid (HY.out hok)
    clear hok
    have ho1 := own_made (w := w1) (base := w1.heap.size) 3 1 (Nat.le_refl _)
    have hb2 : Below w1.heap.size w1 (w1.alloc (.cells #[] 3)) := (Below.refl _ _).alloc (Nat.le_refl _) _
    have kC2 := cell_keep hb2 kC1
    go_wp2_with fail
    go_loopw [5, 16] (fun v i wr => ∃ k : Nat, k ≤ q ∧ i = .int .i64 k ∧ wr.ownsRow w1.heap.size 3 1 v k (((l.take k).map (stLet g)).map iv) ∧ Below w1.heap.size w1 wr) (fun _ i _ => q - (intOf i).toNat)
    case atStart => exact ⟨0, Nat.zero_le _, rfl, ho1, hb2⟩
    case round =>
      obtain ⟨k, hk, rfl, hown, t⟩ := hrel
      have hBr := below_then hB1 t
      have kAr := cell_keep t kA1
      have kBr := cell_keep t kB1
      by_cases hlt : k < q
      · obtain ⟨b, o, rfl, had, x, hx, c0, c1⟩ := step_at (h'.up hBr).rd HLQ.out hlt
        have HSX := Lib.hid (map_take_succ (stLet g) hx)
        have q3 : Small (k + 1) := small_of (by omega)
        clear hx
        obtain ⟨xe, xi⟩ := x
        dsimp only at c0 c1
        have hb3 : Below wr.heap.size wr (wr.alloc (.cells #[.int .i64 xe, .bool xi] 68)) := (Below.refl _ _).alloc (Nat.le_refl _) _
        have x0 : (wr.alloc (.cells #[.int .i64 xe, .bool xi] 68)).cell? ⟨wr.heap.size, 0, none⟩ = some (.int .i64 xe) := by go_simp
        have x1 : (wr.alloc (.cells #[.int .i64 xe, .bool xi] 68)).cell? ⟨wr.heap.size, 1, none⟩ = some (.bool xi) := by go_simp
        have kA3 := cell_keep hb3 kAr
        have kB3 := cell_keep hb3 kBr
        have ho3 := own_below hown hb3 (Nat.le_refl _)
        have t3 := below_then t hb3
        have hB3 := below_then hB1 t3
        obtain ⟨y, hy⟩ : ∃ y, stLet g ⟨xe, xi⟩ = y := ⟨_, rfl⟩
        have hsx := HSX.out
        rw [hy] at hsx
        have HSX2 := Lib.hid hsx
        have HYY := Lib.hid hy
        have h15 := iv_one [y]
        clear kAr kBr hown hBr hb3 hsx hy HSX t
        go_wp2_with fail
        generalize wr.heap.size = xb at *
        generalize (wr.alloc (.cells #[.int .i64 xe, .bool xi] 68)) = w3 at *
        refine (implStepLetter_is _ (h.up hB3) ⟨xe, xi⟩).mono ?_
        rw [HYY.out]
        rintro r w5 ⟨rfl, hb5⟩
        have ho5 := own_below ho3 hb5 (Nat.le_refl _)
        have t5 := below_then t3 hb5
        have hz5 := t5.size
        clear ho3 t3 hB3 x0 x1 kA3 kB3 hb5
        go_wp2_with (at_builtin; refine ap_plain _ app_int (by decide) w1.heap.size (.tmp 20) (.tmp 24) rfl rfl _ _ _ rfl (ho5.alloc _) _ _ 1 1 _ rfl (reads_new _ rfl) h15 q3 (Nat.le_trans hz5 (by simp)) ?_; intro v6 w6 hown6 hg6 hat6; have t6 := below_grown_own (t5.alloc hz5 _) (ho5.alloc _) hg6 (Nat.le_refl _) (Nat.le_trans hz5 (by simp)); replace hown6 := own_snoc_int y rfl hown6; clear hg6 hat6)
        go_roundw
        case rel => exact ⟨k + 1, by omega, by go_num, by rw [HSX2.out]; exact hown6, t6⟩
        case measure => simp [intOf]; omega
      · obtain rfl : k = q := by omega
        rw [List.take_of_length_le (by have := HLQ.out; omega), ← HX.out] at hown
        obtain ⟨A5, c5, rfl, _⟩ := own_form hown
        have RO := (RIs.of hown (by omega)).wide hB1.size (Nat.le_refl _)
        go_wp2
        go_ret
        exact ⟨_, _, _, rfl, RO, hBr⟩
end Go.Proofs.YtomkgnamjfiocaaGreatDoor
namespace Go.Proofs.YtomkgnamjfiocaaGreatDoor
open Go.RowKit Go.ChangeShapes Go.WideShapes Go.ChangeAt Go.Deep
set_option linter.unusedVariables false
/-- Does an edge of the first k steps bear this number? -/
def hasEd (l : List St) (k : Nat) (i : Int) : Bool := (l.take k).any fun x => x.ed == i
/-- Are the edges of the first k steps all apart? -/
def apartUp (l : List St) (k : Nat) : Bool := (List.range k).all fun j => match l[j]? with | some x => !hasEd l j x.ed | none => true
def trailZ (g : G) (s : Int) (l : List St) : Bool := apartUp l l.length && walkOk g s l
theorem apartUp_succ {l : List St} {k : Nat} {x : St} (h : l[k]? = some x) : apartUp l (k + 1) = (apartUp l k && !hasEd l k x.ed) := by
  unfold apartUp
  rw [List.range_succ, List.all_append]
  simp [h]
theorem apartUp_false {l : List St} {q m : Nat} (h : apartUp l (q + 1) = false) (hq : q < m) : apartUp l m = false := by
  unfold apartUp at *
  rw [List.all_eq_false] at *
  obtain ⟨x, hx, hf⟩ := h
  exact ⟨x, by rw [List.mem_range] at *; omega, hf⟩
theorem hasEd_succ {l : List St} {k : Nat} {x : St} {i : Int} (h : l[k]? = some x) : hasEd l (k + 1) i = (hasEd l k i || (x.ed == i)) := by
  obtain ⟨hk, rfl⟩ := List.getElem?_eq_some_iff.1 h
  unfold hasEd
  rw [List.take_succ_eq_append_getElem hk, List.any_append]
  simp
theorem hasEd_true {l : List St} {k q : Nat} {i : Int} (h : hasEd l (k + 1) i = true) (hq : k < q) : hasEd l q i = true := by
  unfold hasEd at *
  rw [List.any_eq_true] at *
  obtain ⟨x, hx, hf⟩ := h
  exact ⟨x, by
    rw [List.mem_take_iff_getElem] at *
    obtain ⟨j, hj, rfl⟩ := hx
    exact ⟨j, by omega, rfl⟩, hf⟩
/-- The place of the first of the first k steps whose edge bears i, or -1. -/
def posEd (l : List St) (k : Nat) (i : Int) : Int := if hasEd l k i then 0 else -1
set_option maxRecDepth 4000 in
theorem trailClosure_any (x : St) (i : Int) (b : Nat) (w : World) (hb : b < w.heap.size) (hc : w.cell? ⟨b, 0, none⟩ = some (.int .i64 i)) :
    Calls Tryz.prog 44 #[.agg #[.int .i64 x.ed, .bool x.inv], .pointer (some ⟨b, 0, none⟩)] w fun r w' => r = .returned (.bool (x.ed == i)) ∧ Below w.heap.size w w' := by
  obtain ⟨a, c⟩ := x
  have hne : b ≠ w.heap.size := by omega
  go_enter Tryz.func44, Tryz.ntmps44
  go_wp2
  go_ret
  exact ⟨rfl, (Below.refl _ _).alloc (Nat.le_refl _) _⟩
/-- What IndexFunc gives: a number that is negative just where no step is found. -/
def FoundI (l : List St) (k : Nat) (i : Int) (w : World) (e : Ending) (w' : World) : Prop := ∃ z : Int, e = .returned (.int .i64 z) ∧ decide (0 ≤ z) = hasEd l k i ∧ Below w.heap.size w w'
set_option maxRecDepth 4000 in
set_option maxHeartbeats 800000 in
theorem indexFuncSt_any (w : World) {C : Option Addr} {q e n : Nat} {l : List St} (i : Int) (b0 : Nat) (h : SRd w C n l) (hqn : q ≤ n) (hb : b0 < w.heap.size) (hc : w.cell? ⟨b0, 0, none⟩ = some (.int .i64 i)) :
    Calls Tryz.prog 90 #[.slice C q e, .func (Fn.func 44) #[] #[.pointer (some ⟨b0, 0, none⟩)]] w (FoundI l q i w) := by
  have hn := h.bd
  have HLN := Lib.hid h.ln
  go_enter Tryz.func90, Tryz.ntmps90
  go_wp2
  go_loopw [8] (fun j wr => ∃ k : Nat, k ≤ q ∧ j = .int .i64 k ∧ hasEd l k i = false ∧ Below w.heap.size w wr) (fun j _ => q - (intOf j).toNat)
  case atStart => exact ⟨0, Nat.zero_le _, rfl, rfl, Below.refl _ _⟩
  case round =>
    obtain ⟨k, hk, rfl, hno, hbel⟩ := hrel
    have hsz := hbel.size
    by_cases hlt : k < q
    · obtain ⟨b, o, rfl, had, x, hx, c0, c1⟩ := step_at (h.up hbel).rd HLN.out (show k < n by omega)
      have hsx := hasEd_succ (i := i) hx
      rw [hno, Bool.false_or] at hsx
      have HSX := Lib.hid hsx
      have hcr : wr.cell? ⟨b0, 0, none⟩ = some (.int .i64 i) := (hbel.cell (p := ⟨b0, 0, none⟩) hb).trans hc
      clear hx hsx hno
      obtain ⟨xe, xi⟩ := x
      dsimp only at c0 c1
      cases hh : (xe == i)
      · have HS := Lib.hid (show hasEd l (k + 1) i = false by rw [HSX.out, hh])
        go_wp2_with (go_at_call 44; refine (trailClosure_any ⟨xe, xi⟩ i b0 _ (by omega) hcr).mono ?_; rintro r w1 ⟨rfl, hb1⟩; rw [hh])
        go_roundw
        case rel => exact ⟨k + 1, by omega, by go_num, HS.out, hbel.trans (hb1.mono hbel.size)⟩
        case measure => simp [intOf]; omega
      · have HS := Lib.hid (show hasEd l q i = true from hasEd_true (by rw [HSX.out, hh]) hlt)
        go_wp2_with (go_at_call 44; refine (trailClosure_any ⟨xe, xi⟩ i b0 _ (by omega) hcr).mono ?_; rintro r w1 ⟨rfl, hb1⟩; rw [hh])
        go_ret
        exact ⟨_, rfl, by rw [HS.out]; simp, hbel.trans (hb1.mono hbel.size)⟩
    · obtain rfl : k = q := by omega
      have HS := Lib.hid hno
      clear hno
      go_wp2
      go_ret
      exact ⟨_, rfl, by rw [HS.out]; rfl, hbel⟩
set_option maxRecDepth 4000 in
theorem containsFuncSt_any (w : World) {C : Option Addr} {q e n : Nat} {l : List St} (i : Int) (b0 : Nat) (h : SRd w C n l) (hqn : q ≤ n) (hb : b0 < w.heap.size) (hc : w.cell? ⟨b0, 0, none⟩ = some (.int .i64 i)) :
    Calls Tryz.prog 43 #[.slice C q e, .func (Fn.func 44) #[] #[.pointer (some ⟨b0, 0, none⟩)]] w fun r w' => r = .returned (.bool (hasEd l q i)) ∧ Below w.heap.size w w' := by
  go_enter Tryz.func43, Tryz.ntmps43
  go_wp2_with fail
  refine (indexFuncSt_any w i b0 h hqn hb hc).mono ?_
  rintro r w1 ⟨z, rfl, hz, hb1⟩
  have HZ := Lib.hid hz
  clear hz
  go_wp2
  go_ret
  exact ⟨by rw [← HZ.out] <;> rfl, hb1⟩
end Go.Proofs.YtomkgnamjfiocaaGreatDoor
