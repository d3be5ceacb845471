/- ReverseWalk of the program. -/
import Derived.Test.YtomkgnamjfiocaaGreatDoorBaseF
namespace Go.Proofs.YtomkgnamjfiocaaGreatDoor
open Go.RowKit Go.ChangeShapes Go.WideShapes Go.ChangeAt Go.Deep
set_option linter.unusedVariables false
def invS (s : St) : St := ⟨s.ed, !s.inv⟩
def revSt (l : List St) : List St := l.reverse.map invS
def revWk (g : G) (s : Int) (l : List St) : Wk := if walkOk g s l then ⟨endZ g s l, revSt l⟩ else ⟨0, []⟩
theorem revWk_no {g : G} {s : Int} {l : List St} (h : walkOk g s l = false) : revWk g s l = ⟨0, []⟩ := by simp [revWk, h]
theorem revWk_yes {g : G} {s : Int} {l : List St} (h : walkOk g s l = true) : revWk g s l = ⟨endZ g s l, revSt l⟩ := by simp [revWk, h]
theorem revSt_len (l : List St) : (revSt l).length = l.length := by simp [revSt]
theorem revSt_at {l : List St} {p q : Nat} {c : St} (h : l[p]? = some c) (hpq : p + 1 + q = l.length) : (revSt l)[q]? = some (invS c) := by
  obtain ⟨hp, rfl⟩ := List.getElem?_eq_some_iff.1 h
  unfold revSt
  rw [List.getElem?_map, List.getElem?_reverse (by omega)]
  have : l.length - 1 - q = p := by omega
  rw [this, List.getElem?_eq_getElem hp]
  rfl
theorem own_snoc_st2 {w : World} {base k : Nat} {e : TypeId} {v x : Value} {L : List St} {y : St} (hx : x = .agg #[.int .i64 y.ed, .bool y.inv]) (hy : L[k]? = some y) (h : w.ownsRow base e 2 v (k + 1) (stcs (L.take k) ++ x.cells.toList)) :
    w.ownsRow base e 2 v (k + 1) (stcs (L.take (k + 1))) := by
  subst hx
  obtain ⟨hk, rfl⟩ := List.getElem?_eq_some_iff.1 hy
  rw [List.take_succ_eq_append_getElem hk, stcs_append]
  exact h
set_option maxRecDepth 4000 in
set_option maxHeartbeats 4000000 in
theorem implReverseWalk_is (w : World) {A B C : Option Addr} {n c m d q e : Nat} {g : G} (h : GRd w A n B m g) (s : Int) {l : List St} (h' : SRd w C q l) :
    Calls Tryz.prog 7 #[.agg #[.slice A n c, .slice B m d], .agg #[.int .i64 s, .slice C q e]] w fun r w' => ∃ A2 n2 c2, r = .returned (.tuple #[.agg #[.int .i64 (revWk g s l).st, .slice A2 n2 c2], .bool (walkOk g s l)]) ∧ RIs w' w.heap.size w'.heap.size 68 2 A2 n2 c2 (stcs (revWk g s l).steps) ∧ Below w.heap.size w w' := by
  have hq := h'.bd
  have HLQ := Lib.hid h'.ln
  have hB0 : Below w.heap.size w (((w.alloc (.cells #[.slice A n c, .slice B m d] 27)).alloc (.cells #[.int .i64 s, .slice C q e] 30)).alloc (.cells #[.int .i64 0, .slice none 0 0] 30)) := (((Below.refl _ _).alloc (Nat.le_refl _) _).alloc (by simp) _).alloc (by simp; omega) _
  have kC : (((w.alloc (.cells #[.slice A n c, .slice B m d] 27)).alloc (.cells #[.int .i64 s, .slice C q e] 30)).alloc (.cells #[.int .i64 0, .slice none 0 0] 30)).cell? ⟨w.heap.size + 1, 1, none⟩ = some (.slice C q e) := by go_simp
  have r0 : (((w.alloc (.cells #[.slice A n c, .slice B m d] 27)).alloc (.cells #[.int .i64 s, .slice C q e] 30)).alloc (.cells #[.int .i64 0, .slice none 0 0] 30)).cell? ⟨w.heap.size + 1 + 1, 0, none⟩ = some (.int .i64 0) := by go_simp
  have r1 : (((w.alloc (.cells #[.slice A n c, .slice B m d] 27)).alloc (.cells #[.int .i64 s, .slice C q e] 30)).alloc (.cells #[.int .i64 0, .slice none 0 0] 30)).cell? ⟨w.heap.size + 1 + 1, 1, none⟩ = some (.slice none 0 0) := by go_simp
  have f0 : (((w.alloc (.cells #[.slice A n c, .slice B m d] 27)).alloc (.cells #[.int .i64 s, .slice C q e] 30)).alloc (.cells #[.int .i64 0, .slice none 0 0] 30)).frozen? ⟨w.heap.size + 1 + 1, 0, none⟩ = false := by go_simp
  have f1 : (((w.alloc (.cells #[.slice A n c, .slice B m d] 27)).alloc (.cells #[.int .i64 s, .slice C q e] 30)).alloc (.cells #[.int .i64 0, .slice none 0 0] 30)).frozen? ⟨w.heap.size + 1 + 1, 1, none⟩ = false := by go_simp
  have hz0 : w.heap.size + 1 + 1 < (((w.alloc (.cells #[.slice A n c, .slice B m d] 27)).alloc (.cells #[.int .i64 s, .slice C q e] 30)).alloc (.cells #[.int .i64 0, .slice none 0 0] 30)).heap.size := by simp
  have hend := endZ_at (g := g) (s := s) (l := l)
  have hno := revWk_no (g := g) (s := s) (l := l)
  have hyes := revWk_yes (g := g) (s := s) (l := l)
  have hlen := nodesZ_len (g := g) (s := s) (l := l)
  obtain ⟨ok, hok⟩ : ∃ ok, walkOk g s l = ok := ⟨_, rfl⟩
  rw [hok] at hend hno hyes hlen
  have HE := Lib.hid hend
  have HN := Lib.hid hno
  have HY := Lib.hid hyes
  have HL := Lib.hid hlen
  have HOK := Lib.hid hok
  clear hend hno hyes hlen hok
  go_enter Tryz.func7, Tryz.ntmps7
  go_wp2_with fail
  generalize (((w.alloc (.cells #[.slice A n c, .slice B m d] 27)).alloc (.cells #[.int .i64 s, .slice C q e] 30)).alloc (.cells #[.int .i64 0, .slice none 0 0] 30)) = w0 at *
  refine (nodesOf_is _ (h.up hB0) s (h'.up hB0)).mono ?_
  rw [HOK.out]
  rintro r w1 ⟨A1, n1, c1, rfl, O, hb1⟩
  have hB1 := below_then hB0 hb1
  have kC1 := cell_keep hb1 kC
  have r01 := cell_keep hb1 r0
  have r11 := cell_keep hb1 r1
  have f01 := frozen_keep hb1 r0 f0
  have f11 := frozen_keep hb1 r1 f1
  have hz1 : w.heap.size + 1 + 1 < w1.heap.size := Nat.lt_of_lt_of_le hz0 hb1.size
  clear kC r0 r1 f0 f1 hb1
  cases ok
  · have HX := Lib.hid (HN.out rfl)
    have HX1 := Lib.hid (show (revWk g s l).st = 0 by rw [HX.out])
    have HX2 := Lib.hid (show (revWk g s l).steps = [] by rw [HX.out])
    go_wp2
    refine bodyPost_ret (v := .tuple #[.agg #[.int .i64 0, .slice none 0 0], .bool false]) ?_ rfl ?_
    · simp [results, Tryz.results7, go_sem]
      go_simp
    · refine ⟨none, 0, 0, by rw [HOK.out, HX1.out] <;> rfl, ?_, ?_⟩
      · rw [HX2.out]
        exact (ris_nil _ _ _).wide (by simp; omega) (Nat.le_refl _)
      · exact (hB1.setCell (p := ⟨w.heap.size + 1 + 1, 0, none⟩) (by dsimp only; omega) _).setCell (p := ⟨w.heap.size + 1 + 1, 1, none⟩) (by dsimp only; omega) _
  · have hl := HL.out rfl
    have hn1 : n1 = l.length + 1 := by have := O.len; rw [List.length_map] at this; omega
    obtain ⟨b1, rfl, _, _⟩ := O.at_ (by omega)
    have he := HE.out rfl
    have hbd := O.bd
    have hcl : w1.cell? ⟨b1, l.length, none⟩ = some (.int .i64 (endZ g s l)) := O.cell (by rw [List.getElem?_map, he]; rfl)
    obtain ⟨k0, hk0⟩ : ∃ k, l.length = k := ⟨_, rfl⟩
    rw [hk0] at hn1 hcl
    subst hn1
    obtain ⟨z, hz⟩ : ∃ z, endZ g s l = z := ⟨_, rfl⟩
    rw [hz] at hcl
    have HYY := Lib.hid (show revWk g s l = ⟨z, revSt l⟩ by rw [← hz]; exact HY.out rfl)
    clear hl he hk0 hz
    have hb2 : Below w1.heap.size w1 (w1.alloc (.cells #[.int .i64 z, .slice none 0 0] 30)) := (Below.refl _ _).alloc (Nat.le_refl _) _
    have hB2 := below_then hB1 hb2
    have kC2 := cell_keep hb2 kC1
    have r02 := cell_keep hb2 r01
    have r12 := cell_keep hb2 r11
    have f02 := frozen_keep hb2 r01 f01
    have f12 := frozen_keep hb2 r11 f11
    have X2 := Blk.new w1 30 #[.int .i64 z, .slice none 0 0]
    have hz2 : (w1.alloc (.cells #[.int .i64 z, .slice none 0 0] 30)).heap.size = w1.heap.size + 1 := by simp
    clear r01 r11 f01 f11
    go_wp2_with fail
    generalize (w1.alloc (.cells #[.int .i64 z, .slice none 0 0] 30)) = w2 at *
    have HZ := Lib.hid hz2
    have hz2a : w1.heap.size < w2.heap.size := by omega
    have HI := Lib.hid (fun (p q' : Nat) (y : St) (hp : l[p]? = some y) (hpq : p + 1 + q' = q) => revSt_at hp (by rw [h'.ln]; exact hpq))
    obtain ⟨R, hR⟩ : ∃ R, revSt l = R := ⟨_, rfl⟩
    have HRL := Lib.hid (show R.length = q by rw [← hR, revSt_len, h'.ln])
    rw [hR] at HI
    have HR := Lib.hid hR
    clear hR hz2 hcl kC1
    go_loopw [9] (fun i wr => ∃ (p k : Nat) (v : Value), p + k = q ∧ i = .int .i64 ((p : Int) - 1) ∧ wr.ownsRow w2.heap.size 68 2 v k (stcs (R.take k)) ∧ Blk wr w1.heap.size 30 #[.int .i64 z, v] ∧ Tch w1.heap.size w2.heap.size w2 wr) (fun i _ => (intOf i + 1).toNat)
    case atStart => exact ⟨q, 0, _, by omega, rfl, World.ownsRow_nil _ _ _ _, X2, Tch.refl _ _ _⟩
    case round =>
      obtain ⟨p, k, v, hpq, hi, hown, X, t⟩ := hrel
      have hzr := t.size
      have kCr := cell_tch t kC2 (.inl (by dsimp only; omega))
      have xA : wr.cell? ⟨w1.heap.size, 0, none⟩ = some (.int .i64 z) := by rw [X.cell]; rfl
      have xB : wr.cell? ⟨w1.heap.size, 1, none⟩ = some v := by rw [X.cell]; rfl
      have xf := X.frozen 1
      obtain ⟨B1, d1, rfl, _⟩ := own_form hown
      have hbelr := below_tch hB2 t (by omega)
      rcases Nat.eq_zero_or_pos p with rfl | hp
      · obtain rfl : k = q := by omega
        subst hi
        rw [List.take_of_length_le (by have := HRL.out; omega), ← HR.out] at hown
        have r0r := cell_tch t r02 (.inl (by dsimp only; omega))
        have r1r := cell_tch t r12 (.inl (by dsimp only; omega))
        have f0r := t.frz r02 f02 (.inl (by dsimp only; omega))
        have f1r := t.frz r12 f12 (.inl (by dsimp only; omega))
        have hx1 : w.heap.size + 1 + 1 ≠ w1.heap.size := by omega
        have O2 := ((RIs.of hown hq).setB (p := ⟨w.heap.size + 1 + 1, 0, none⟩) (by dsimp only; omega) (.int .i64 z)).setB (p := ⟨w.heap.size + 1 + 1, 1, none⟩) (by dsimp only; omega) (.slice B1 k d1)
        have hB6 := (hbelr.setCell (p := ⟨w.heap.size + 1 + 1, 0, none⟩) (by dsimp only; omega) (.int .i64 z)).setCell (p := ⟨w.heap.size + 1 + 1, 1, none⟩) (by dsimp only; omega) (.slice B1 k d1)
        have HX1 := Lib.hid (show (revWk g s l).st = z by rw [HYY.out])
        have HX2 := Lib.hid (show (revWk g s l).steps = revSt l by rw [HYY.out])
        clear r02 r12 f02 f12 X2 t
        go_wp2
        refine bodyPost_ret (v := .tuple #[.agg #[.int .i64 z, .slice B1 k d1], .bool true]) ?_ rfl ?_
        · simp [results, Tryz.results7, go_sem]
          go_simp
        · exact ⟨_, _, _, by rw [HOK.out, HX1.out] <;> rfl, by rw [HX2.out]; exact O2.wide (by omega) (by simp), hB6⟩
      · obtain ⟨r, rfl⟩ : ∃ r, p = r + 1 := ⟨p - 1, by omega⟩
        have hii : ((r + 1 : Nat) : Int) - 1 = (r : Int) := by omega
        rw [hii] at hi
        subst hi
        clear hii
        have hlt : r < q := by omega
        obtain ⟨b, o, rfl, had, y, hy, c0, c1⟩ := step_at (h'.up hbelr).rd HLQ.out hlt
        have hRy := HI.out r k y hy (by omega)
        have HRY := Lib.hid hRy
        have HC := Lib.hid (fun w' (hb : Below w.heap.size w w') => step_cells (h'.up hb).rd hy)
        have hlt' : (r : Int) < q := by omega
        have hk0 : (0 : Int) ≤ (r : Int) := by omega
        have q3 : Small (k + 1) := small_of (by omega)
        obtain ⟨xe, xi⟩ := y
        dsimp only at c0 c1
        clear hy hRy
        go_wp2_with fail
        have tD := t.drew
        have XD : Blk wr.drew w1.heap.size 30 #[.int .i64 z, .slice B1 k d1] := X.drew
        have hoD := own_drew hown
        have h14 := stcs_one [invS ⟨xe, xi⟩]
        have hzD : w1.heap.size < wr.drew.heap.size := Nat.lt_of_lt_of_le hz2a tD.size
        have x4B := cell_al (.cells #[.int .i64 xe, .bool (!xi)] 68) (w := wr) xB
        have ho4 := hoD.alloc (.cells #[.int .i64 xe, .bool (!xi)] 68)
        have t4 := tD.alloc (.cells #[.int .i64 xe, .bool (!xi)] 68)
        have X4 := XD.alloc (.cells #[.int .i64 xe, .bool (!xi)] 68)
        have hr4 := reads_new (w := wr.drew) (e := 68) (size := 2) (m := 1) #[.int .i64 xe, .bool (!xi)] rfl
        have hle4 := t4.size
        clear t X hown hbelr
        go_region_law (refine ap_step _ app_step (by decide) w2.heap.size (.tmp 35) (.tmp 50) rfl rfl _ _ _ rfl ho4 _ _ 1 1 _ rfl hr4 h14 q3 hle4 ?_; intro v5 w5 hown5 hg5 hat5; clear hat5; have t5 := t4.grown ho4 (Nat.le_refl _) hg5; have X5 := X4.grown hg5 (fun hq => by have := (ownBlock_some ho4 hq.symm).1; omega); have x5A : w5.cell? ⟨w1.heap.size, 0, none⟩ = some (.int .i64 z) := (by rw [X5.cell]; rfl); have x5B : w5.cell? ⟨w1.heap.size, 1, none⟩ = some (.slice B1 k d1) := (by rw [X5.cell]; rfl); have x5f := X5.frozen 1; replace hown5 := own_snoc_st2 (y := invS ⟨xe, xi⟩) rfl HRY.out hown5; obtain ⟨B5, d5, rfl, _⟩ := own_form hown5)
        all_goals
          have X6 := X5.set_ 1 (.slice B5 (k + 1) d5)
          have t6 := t5.setCell (p := ⟨w1.heap.size, 1, none⟩) (Nat.le_refl _) hz2a (.slice B5 (k + 1) d5)
          have ho6 := ownsRow_setCell_below hown5 (a := ⟨w1.heap.size, 1, none⟩) hz2a (.slice B5 (k + 1) d5)
          clear X5 t5 hown5 hg5 ho4 hr4 X4 t4 x5A x5B x5f
          go_wp2
          go_roundw
          case rel => exact ⟨r, k + 1, _, by omega, rfl, ho6, X6, t6⟩
          case measure => simp [intOf]
end Go.Proofs.YtomkgnamjfiocaaGreatDoor
