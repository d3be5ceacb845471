/- InvertBatch of both packages. -/
import Derived.Test.YtomkgnamjfiocaaGreatDoorSEq
import Derived.Test.YtomkgnamjfiocaaGreatDoorBaseC
namespace Go.Proofs.YtomkgnamjfiocaaGreatDoor
open Go.RowKit Go.ChangeShapes Go.WideShapes Go.ChangeAt Go.Deep
set_option linter.unusedVariables false
def invC (c : Cg) : Cg := ⟨!c.ins, c.e⟩
def invertL (l : List Cg) : List Cg := l.reverse.map invC
theorem invertL_len (l : List Cg) : (invertL l).length = l.length := by simp [invertL]
theorem invertL_at {l : List Cg} {p q : Nat} {c : Cg} (h : l[p]? = some c) (hpq : p + 1 + q = l.length) : (invertL l)[q]? = some (invC c) := by
  obtain ⟨hp, rfl⟩ := List.getElem?_eq_some_iff.1 h
  unfold invertL
  rw [List.getElem?_map, List.getElem?_reverse (by omega)]
  have : l.length - 1 - q = p := by omega
  rw [this, List.getElem?_eq_getElem hp]
  rfl
theorem own_snoc_cg {w : World} {base k : Nat} {e : TypeId} {v x : Value} {L : List Cg} {y : Cg} (hx : x = .agg #[.bool y.ins, .int .i64 y.e.id, .int .i64 y.e.fr, .int .i64 y.e.to, .int .i64 y.e.lb]) (hy : L[k]? = some y) (h : w.ownsRow base e 5 v (k + 1) (cgcs (L.take k) ++ x.cells.toList)) :
    w.ownsRow base e 5 v (k + 1) (cgcs (L.take (k + 1))) := by
  subst hx
  obtain ⟨hk, rfl⟩ := List.getElem?_eq_some_iff.1 hy
  rw [List.take_succ_eq_append_getElem hk, cgcs_append]
  exact h
theorem change_cells {w : World} {B b o n k : Nat} {es : List Cg} {e : Cg} (h : Reads w B 5 (some ⟨b, o, none⟩) n (cgcs es)) (he : es[k]? = some e) : w.cell? ⟨b, o + k * 5, none⟩ = some (.bool e.ins) ∧ w.cell? ⟨b, o + k * 5 + 1, none⟩ = some (.int .i64 e.e.id) ∧ w.cell? ⟨b, o + k * 5 + 2, none⟩ = some (.int .i64 e.e.fr) ∧ w.cell? ⟨b, o + k * 5 + 3, none⟩ = some (.int .i64 e.e.to) ∧ w.cell? ⟨b, o + k * 5 + 4, none⟩ = some (.int .i64 e.e.lb) := by
  have hk := (List.getElem?_eq_some_iff.1 he).1
  have hl : es.length = n := by have := h.1; rw [cgcs_len] at this; omega
  obtain ⟨b2, o2, hA, _, e2, he2, c0, c1, c2, c3, c4⟩ := change_at (k := k) h hl (by omega)
  have hbo : b = b2 ∧ o = o2 := by simpa using hA
  obtain ⟨rfl, rfl⟩ := hbo
  obtain rfl : e = e2 := by rw [he] at he2; simpa using he2
  exact ⟨c0, c1, c2, c3, c4⟩
set_option maxRecDepth 4000 in
theorem inverse_any (i : Bool) (a b c d : Int) (w : World) : Calls Tryz.prog 72 #[.agg #[.bool i, .int .i64 a, .int .i64 b, .int .i64 c, .int .i64 d]] w fun r w' => r = .returned (.agg #[.bool (!i), .int .i64 a, .int .i64 b, .int .i64 c, .int .i64 d]) ∧ Below w.heap.size w w' := by
  go_enter Tryz.func72, Tryz.ntmps72
  go_wp2
  exact bodyPost_ret (v := .agg #[.bool (!i), .int .i64 a, .int .i64 b, .int .i64 c, .int .i64 d]) (by simp [results, Tryz.results72, go_sem]) rfl ⟨rfl, by repeat (first | exact Below.refl _ _ | refine Below.alloc ?_ (by first | exact Nat.le_refl _ | (simp only [World.size_alloc]; omega)) _)⟩
set_option maxRecDepth 4000 in
set_option maxHeartbeats 2000000 in
theorem implInvertBatch_is (w : World) {A : Option Addr} {n c : Nat} {l : List Cg} (h : CRd w A n l) :
    Calls Tryz.prog 29 #[.agg #[.slice A n c]] w fun e w' => ∃ A2 n2 c2, e = .returned (.agg #[.slice A2 n2 c2]) ∧ RIs w' w.heap.size w'.heap.size 92 5 A2 n2 c2 (cgcs (invertL l)) ∧ Below w.heap.size w w' := by
  have hn := h.bd
  have HL := Lib.hid h.ln
  have hB2 : Below w.heap.size w (((w.alloc (.cells #[.slice A n c] 47)).alloc (.cells #[.slice none 0 0] 47)).alloc (.cells #[.slice none 0 0] 47)) := (((Below.refl _ _).alloc (Nat.le_refl _) _).alloc (by simp) _).alloc (by simp; omega) _
  have kA2 : (((w.alloc (.cells #[.slice A n c] 47)).alloc (.cells #[.slice none 0 0] 47)).alloc (.cells #[.slice none 0 0] 47)).cell? ⟨w.heap.size, 0, none⟩ = some (.slice A n c) := by go_simp
  have r02 : (((w.alloc (.cells #[.slice A n c] 47)).alloc (.cells #[.slice none 0 0] 47)).alloc (.cells #[.slice none 0 0] 47)).cell? ⟨w.heap.size + 1, 0, none⟩ = some (.slice none 0 0) := by go_simp
  have f02 : (((w.alloc (.cells #[.slice A n c] 47)).alloc (.cells #[.slice none 0 0] 47)).alloc (.cells #[.slice none 0 0] 47)).frozen? ⟨w.heap.size + 1, 0, none⟩ = false := by go_simp
  have X2 : Blk (((w.alloc (.cells #[.slice A n c] 47)).alloc (.cells #[.slice none 0 0] 47)).alloc (.cells #[.slice none 0 0] 47)) (w.heap.size + 1 + 1) 47 #[.slice none 0 0] := by have := Blk.new ((w.alloc (.cells #[.slice A n c] 47)).alloc (.cells #[.slice none 0 0] 47)) 47 #[.slice none 0 0]; simpa only [World.size_alloc] using this
  have hz2 : (((w.alloc (.cells #[.slice A n c] 47)).alloc (.cells #[.slice none 0 0] 47)).alloc (.cells #[.slice none 0 0] 47)).heap.size = w.heap.size + 1 + 1 + 1 := by simp
  go_enter Tryz.func29, Tryz.ntmps29
  go_wp2
  generalize (((w.alloc (.cells #[.slice A n c] 47)).alloc (.cells #[.slice none 0 0] 47)).alloc (.cells #[.slice none 0 0] 47)) = w2 at *
  have HZ := Lib.hid hz2
  have hz2a : w.heap.size + 1 + 1 < w2.heap.size := by omega
  have HI := Lib.hid (fun (p q : Nat) (y : Cg) (hp : l[p]? = some y) (hpq : p + 1 + q = n) => invertL_at hp (by rw [h.ln]; exact hpq))
  obtain ⟨R, hR⟩ : ∃ R, invertL l = R := ⟨_, rfl⟩
  have HRL := Lib.hid (show R.length = n by rw [← hR, invertL_len, h.ln])
  rw [hR] at HI
  have HR := Lib.hid hR
  clear hR hz2
  go_loopw [4] (fun i wr => ∃ (p q : Nat) (v : Value), p + q = n ∧ i = .int .i64 ((p : Int) - 1) ∧ wr.ownsRow w2.heap.size 92 5 v q (cgcs (R.take q)) ∧ Blk wr (w.heap.size + 1 + 1) 47 #[v] ∧ Tch (w.heap.size + 1 + 1) w2.heap.size w2 wr) (fun i _ => (intOf i + 1).toNat)
  case atStart => exact ⟨n, 0, _, by omega, rfl, World.ownsRow_nil _ _ _ _, X2, Tch.refl _ _ _⟩
  case round =>
    obtain ⟨p, q, v, hpq, hi, hown, X, t⟩ := hrel
    have hzr := t.size
    have kAr := cell_tch t kA2 (.inl (by dsimp only; omega))
    have xB : wr.cell? ⟨w.heap.size + 1 + 1, 0, none⟩ = some v := by rw [X.cell]; rfl
    have xf := X.frozen 0
    obtain ⟨B1, d1, rfl, _⟩ := own_form hown
    have hbelr := below_tch hB2 t (by omega)
    rcases Nat.eq_zero_or_pos p with rfl | hp
    · obtain rfl : q = n := by omega
      subst hi
      rw [List.take_of_length_le (by have := HRL.out; omega), ← HR.out] at hown
      have r0r := cell_tch t r02 (.inl (by dsimp only; omega))
      have f0r := t.frz r02 f02 (.inl (by dsimp only; omega))
      have O := (RIs.of hown hn).wide (lo := w.heap.size) (by omega) (Nat.le_refl _)
      have O2 := (RIs.of hown hn).setB (p := ⟨w.heap.size + 1, 0, none⟩) (by dsimp only; omega) (.slice B1 q d1)
      have hB6 := hbelr.setCell (p := ⟨w.heap.size + 1, 0, none⟩) (by dsimp only; omega) (.slice B1 q d1)
      clear r02 f02 X2 t
      go_wp2
      refine bodyPost_ret (v := .agg #[.slice B1 q d1]) ?_ rfl ?_
      · simp [results, Tryz.results29, go_sem]
        go_simp
      · exact ⟨_, _, _, rfl, O2.wide (by omega) (by simp), hB6⟩
    · obtain ⟨r, rfl⟩ : ∃ r, p = r + 1 := ⟨p - 1, by omega⟩
      have hii : ((r + 1 : Nat) : Int) - 1 = (r : Int) := by omega
      rw [hii] at hi
      subst hi
      clear hii
      have hlt : r < n := by omega
      obtain ⟨b, o, rfl, had, y, hy, c0, c1, c2, c3, c4⟩ := change_at (h.up hbelr).rd HL.out hlt
      have hRy := HI.out r q y hy (by omega)
      have HRY := Lib.hid hRy
      have HC := Lib.hid (fun w' (hb : Below w.heap.size w w') => change_cells (h.up hb).rd hy)
      have hlt' : (r : Int) < n := by omega
      have hk0 : (0 : Int) ≤ (r : Int) := by omega
      have q3 : Small (q + 1) := small_of (by omega)
      obtain ⟨y0, y1, y2, y3, y4⟩ := y
      dsimp only at c0 c1 c2 c3 c4
      clear hy hRy
      go_wp2_with fail
      have tD := t.drew
      have XD : Blk wr.drew (w.heap.size + 1 + 1) 47 #[.slice B1 q d1] := X.drew
      have hoD := own_drew hown
      have hbD := hbelr.drew
      have h14 := cgcs_one [invC ⟨y0, ⟨y1, y2, y3, y4⟩⟩]
      clear t X hown hbelr
      go_region_law (first
        | (refine ap_step _ app_change (by decide) w2.heap.size (.tmp 15) (.tmp 22) rfl rfl _ _ _ rfl ho4 _ _ 1 1 _ rfl hr4 h14 q3 hle4 ?_; intro v5 w5 hown5 hg5 hat5; clear hat5; have t5 := t4.grown ho4 (Nat.le_refl _) hg5; have X5 := X4.grown hg5 (fun hq => by have := (ownBlock_some ho4 hq.symm).1; omega); have x5B : w5.cell? ⟨w.heap.size + 1 + 1, 0, none⟩ = some (.slice B1 q d1) := (by rw [X5.cell]; rfl); have x5f := X5.frozen 0; replace hown5 := own_snoc_cg (y := invC ⟨y0, ⟨y1, y2, y3, y4⟩⟩) rfl HRY.out hown5; obtain ⟨B5, d5, rfl, _⟩ := own_form hown5; have kA5 := cell_tch t5 kA2 (.inl (by dsimp only; omega)); obtain ⟨e0, e1, e2, e3, e4⟩ := HC.out w5 (below_tch hB2 t5 (by omega)))
        | (go_simp; go_at_call 72; refine (inverse_any _ _ _ _ _ _).mono ?_; rintro r3 w3 ⟨rfl, hb3⟩; have t3 := tD.below hb3; have X3 := XD.below hb3 (by have := tD.size; omega); have ho3 := own_below hoD hb3 (Nat.le_refl _); have kA3 := cell_tch t3 kA2 (.inl (by dsimp only; omega)); obtain ⟨d0, d1', d2, d3, d4⟩ := HC.out w3 (below_tch hB2 t3 (by omega)); have x3B : w3.cell? ⟨w.heap.size + 1 + 1, 0, none⟩ = some (.slice B1 q d1) := (by rw [X3.cell]; rfl); have x4B := cell_al (.cells #[.bool (!y0), .int .i64 y1, .int .i64 y2, .int .i64 y3, .int .i64 y4] 92) x3B; have hz3 : w.heap.size + 1 + 1 < w3.heap.size := Nat.lt_of_lt_of_le hz2a t3.size; have ho4 := ho3.alloc (.cells #[.bool (!y0), .int .i64 y1, .int .i64 y2, .int .i64 y3, .int .i64 y4] 92); have t4 := t3.alloc (.cells #[.bool (!y0), .int .i64 y1, .int .i64 y2, .int .i64 y3, .int .i64 y4] 92); have X4 := X3.alloc (.cells #[.bool (!y0), .int .i64 y1, .int .i64 y2, .int .i64 y3, .int .i64 y4] 92); have hr4 := reads_new (w := w3) (e := 92) (size := 5) (m := 1) #[.bool (!y0), .int .i64 y1, .int .i64 y2, .int .i64 y3, .int .i64 y4] rfl; have hle4 := t4.size; (try dsimp only)))
      all_goals
        have X6 := X5.set_ 0 (.slice B5 (q + 1) d5)
        have t6 := t5.setCell (p := ⟨w.heap.size + 1 + 1, 0, none⟩) (Nat.le_refl _) hz2a (.slice B5 (q + 1) d5)
        have ho6 := ownsRow_setCell_below hown5 (a := ⟨w.heap.size + 1 + 1, 0, none⟩) hz2a (.slice B5 (q + 1) d5)
        clear X5 t5 hown5 hg5 ho4 hr4 X4 t4 x5B x5f
        go_wp2
        go_roundw
        case rel => exact ⟨r, q + 1, _, by omega, rfl, ho6, X6, t6⟩
        case measure => simp [intOf]
end Go.Proofs.YtomkgnamjfiocaaGreatDoor
