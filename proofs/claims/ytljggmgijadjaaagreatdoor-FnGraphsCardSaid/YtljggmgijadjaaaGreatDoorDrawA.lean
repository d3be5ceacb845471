/- A graph drawn, as a rule a good one: l3Any; a node; the draws of FnSteps. (Printed by wip/drw_a.py.) -/
import Derived.Test.YtljggmgijadjaaaGreatDoorDrawG
namespace Go.Proofs.YtljggmgijadjaaaGreatDoor
open Go.RowKit Go.ChangeShapes Go.WideShapes Go.ChangeAt Go.Deep
set_option linter.unusedVariables false
theorem own_c0 {w : World} {base g n c : Nat} {e : TypeId} {vs : List Int} (h : w.ownsRow base e 1 (.slice (some ⟨g, 0, none⟩) n c) n (vs.map iv)) (hl : vs.length = n) (hn : 0 < n) : ∃ v0, w.cell? ⟨g, 0, none⟩ = some (.int .i64 v0) ∧ w.frozen? ⟨g, 0, none⟩ = false := by
  have hx : vs[0]? = some vs[0] := List.getElem?_eq_getElem (by omega)
  refine ⟨vs[0], ?_, h.frozenAt 0⟩
  rw [h.cellAt 0 (by omega), List.getElem?_map, hx]
  rfl
set_option maxRecDepth 4000 in
set_option maxHeartbeats 8000000 in
theorem l3Any_any (w : World) {cb : Nat} (hC : Cur w cb) :
    Calls Tryz.prog 56 #[.pointer (some ⟨cb, 0, none⟩)] w fun e w' => ∃ A n c B m d, e = .returned (.agg #[.slice A n c, .slice B m d]) ∧ n ≤ 5 ∧ m ≤ 12 ∧ (∃ vs es, GIs w' w.heap.size w'.heap.size A n c B m d (List.map iv vs) (ecs es)) ∧ Cur w' cb ∧ Tch cb (cb + 1) w w' := by
  have hcb := hC.lt
  have hB0 : Below w.heap.size w (w.alloc (.cells #[.slice none 0 0, .slice none 0 0] 27)) := (Below.refl _ _).alloc (Nat.le_refl _) _
  have XR := Blk.new w 27 #[.slice none 0 0, .slice none 0 0]
  have C0 := hC.below hB0
  have T0 : Tch cb (cb + 1) w (w.alloc (.cells #[.slice none 0 0, .slice none 0 0] 27)) := Tch.of_below hB0
  have hs0 : w.heap.size + 1 = (w.alloc (.cells #[.slice none 0 0, .slice none 0 0] 27)).heap.size := by simp
  generalize hw0 : w.alloc (.cells #[.slice none 0 0, .slice none 0 0] 27) = w0 at *
  have HW0 := Lib.hid hw0
  clear hw0 hB0
  go_enter Tryz.func56, Tryz.ntmps56
  go_wp2_with fail
  try rw [HW0.out]
  refine (l3Graph_any w0 C0).mono ?_
  rintro e w1 ⟨A, n, c, B, m, d, rfl, hn2, hn5, hm, ⟨vs, es, J⟩, C1, t1⟩
  have T1 := T0.trans t1
  have X1 := XR.tch t1 (by omega)
  have hvl : vs.length = n := by simpa using J.ou.len
  have hel : es.length = m := by have := J.ov.len; rw [ecs_len] at this; omega
  have vr1 := own_rebase J.ou.own.row (show w.heap.size ≤ w0.heap.size by omega)
  have er1 := own_rebase J.ov.own.row (show w.heap.size ≤ w0.heap.size by omega)
  subst hel
  have hz1 := t1.size
  clear t1 J C0 T0 XR hC
  have bG : Below w1.heap.size w1 (w1.alloc (.cells #[.slice A n c, .slice B es.length d] 27)) := (Below.refl _ _).alloc (Nat.le_refl _) _
  have XG := Blk.new w1 27 #[.slice A n c, .slice B es.length d]
  have X2 := X1.below bG X1.lt
  have vr2 := own_below vr1 bG (Nat.le_refl _)
  have er2 := own_below er1 bG (Nat.le_refl _)
  have T2 := T1.below bG
  have C2 := C1.below bG
  have hxx : w1.heap.size ≠ w.heap.size := by omega
  have hxg : w.heap.size ≤ w1.heap.size := by omega
  generalize hw2 : w1.alloc (.cells #[.slice A n c, .slice B es.length d] 27) = w2 at *
  generalize hgg : w1.heap.size = g at *
  have HW2 := Lib.hid hw2
  have HG := Lib.hid hgg
  clear hw2 hgg bG X1 vr1 er1 T1 C1 hz1 hs0
  go_wp2_with fail
  rw [HW2.out, HG.out]
  refine (l1Below_all w2 C2 14 (by omega)).mono ?_
  rintro e w3 ⟨q, rfl, hq0, hq1, C3, t3⟩
  replace XG := XG.tch t3 (by omega)
  replace X2 := X2.tch t3 (by omega)
  replace vr2 := own_tch vr2 t3 hcb
  replace er2 := own_tch er2 t3 hcb
  replace T2 := T2.trans t3
  clear t3 C2
  -- what stands at the end, whatever was drawn
  have END : RowKit.Hid (∀ (z : World) (A : Option Addr) (n c : Nat) (B : Option Addr) (m d : Nat) (vs : List Int) (es : List E), n ≤ 5 → m ≤ 12 → Blk z w.heap.size 27 #[.slice none 0 0, .slice none 0 0] → z.ownsRow w.heap.size 3 1 (.slice A n c) n (vs.map iv) → z.ownsRow w.heap.size 29 4 (.slice B m d) m (ecs es) → Cur z cb → Tch cb (cb + 1) w z →
      (∃ vs es, GIs ((z.setCell ⟨w.heap.size, 0, none⟩ (.slice A n c)).setCell ⟨w.heap.size, 1, none⟩ (.slice B m d)) w.heap.size ((z.setCell ⟨w.heap.size, 0, none⟩ (.slice A n c)).setCell ⟨w.heap.size, 1, none⟩ (.slice B m d)).heap.size A n c B m d (List.map iv vs) (ecs es)) ∧ Cur ((z.setCell ⟨w.heap.size, 0, none⟩ (.slice A n c)).setCell ⟨w.heap.size, 1, none⟩ (.slice B m d)) cb ∧ Tch cb (cb + 1) w ((z.setCell ⟨w.heap.size, 0, none⟩ (.slice A n c)).setCell ⟨w.heap.size, 1, none⟩ (.slice B m d))) := Lib.hid (by
    intro z A n c B m d vs es hn hm X ov oe CR T
    have o6 := own_set (i := 1) (u := .slice B m d) (own_set (i := 0) (u := .slice A n c) oe X (by decide)) (X.set_ 0 _) (by decide)
    have v6 := own_set (i := 1) (u := .slice B m d) (own_set (i := 0) (u := .slice A n c) ov X (by decide)) (X.set_ 0 _) (by decide)
    refine ⟨⟨vs, es, RIs.of v6 (by omega), RIs.of o6 (by omega)⟩, ?_, (T.past (Nat.le_refl _) 0 _).past (Nat.le_refl _) 1 _⟩
    exact (CR.tch ((Tch.refl w.heap.size (w.heap.size + 1) z).setCell (p := ⟨w.heap.size, 0, none⟩) (Nat.le_refl _) (Nat.lt_succ_self _) (.slice A n c)) hcb).tch ((Tch.refl w.heap.size (w.heap.size + 1) _).setCell (p := ⟨w.heap.size, 1, none⟩) (Nat.le_refl _) (Nat.lt_succ_self _) (.slice B m d)) hcb)
  by_cases h0 : q = 0
  · subst h0
    obtain ⟨ab, rfl⟩ : ∃ ab, A = some ⟨ab, 0, none⟩ := by
      rcases vr2.2 with ⟨hv, h0⟩ | ⟨g1, cap, cur, hv, _⟩
      · injection hv with _ h2
        omega
      · injection hv with h2
        exact ⟨g1, h2⟩
    have hOK : Rg.Ok ⟨w, cb, g, w.heap.size, .slice (some ⟨ab, 0, none⟩) n c, n, B, es.length, d, es, 100, 101⟩ := ⟨hcb, hxg, Nat.le_refl _, hxx, (by show (100 : Nat) ≠ 101; decide)⟩
    have hi0 : (0 : Int) < (n : Int) := by omega
    have hi1 : 0 < n := by omega
    go_wp2_with fail
    refine wp_region_sl [10, 11, 12, 13, 14, 15] (fun L f w' => JJ ⟨w, cb, g, w.heap.size, .slice (some ⟨ab, 0, none⟩) n c, n, B, es.length, d, es, 100, 101⟩ (fun k => List.getD [.val (.pointer (some ⟨g, 0, none⟩)), .val (.slice (some ⟨ab, 0, none⟩) n c), .val (.pointer (some ⟨cb, 0, none⟩)), .lit [-1, 3, 2] 4, .int, .val (.pointer (some ⟨ab, 0, none⟩)), .free] k .free) 10 L f w' ∧ L 100 = false ∧ L 101 = false) (by kernel_rfl) (by kernel_rfl) (by decide) (by intro d hd; simp at hd; simp; omega) (by kernel_rfl) ?h0 ?hstep ?hend
    case h0 => exact ⟨⟨(fun k hk => absurd hk Bool.false_ne_true), ⟨fun _ => XG.drew, (fun h => absurd h Bool.false_ne_true), fun _ => own_drew er2, X2.drew, ⟨vs, hvl, own_drew vr2⟩, C3.below ((Below.refl _ _).drew), T2.drew⟩⟩, rfl, rfl⟩
    case hstep =>
      clear XG X2 vr2 er2 T2 C3 END
      intro i L f w' o b K ho hLi hwt hcl ⟨hJ, hl0, hl1⟩ hS HK HN
      have hi : i < 7 := by simpa using (Array.getElem?_eq_some_iff.1 ho).1
      rcases (show i = 0 ∨ i = 1 ∨ i = 2 ∨ i = 3 ∨ i = 4 ∨ i = 5 ∨ i = 6 by omega) with rfl | rfl | rfl | rfl | rfl | rfl | rfl
      all_goals
        simp only [List.getElem?_toArray, List.getElem?_cons_zero, List.getElem?_cons_succ, Option.some.injEq] at ho
        subst ho
        clear hi
      · have s3 : b.tmps.getD 3 undef = .pointer (some ⟨g, 0, none⟩) := hS.o 3 (by decide)
        go_simp
        exact HK.out 10 _ _ rfl ⟨(hJ.pure (show (0 : Nat) ≠ 101 by decide) rfl), (set1_ne (by decide)).trans hl0, (set1_ne (by decide)).trans hl1⟩
      · have s10 : b.tmps.getD 10 undef = .pointer (some ⟨g, 0, none⟩) := (hS.i 10 (by decide)).trans (hJ.v 0 (hwt ⟨0, .data⟩ (by simp) rfl))
        have k0 := box0 hJ.w
        go_simp
        exact HK.out 11 _ _ rfl ⟨(hJ.pure (show (1 : Nat) ≠ 101 by decide) rfl), (set1_ne (by decide)).trans hl0, (set1_ne (by decide)).trans hl1⟩
      · have s0 : b.tmps.getD 0 undef = .pointer (some ⟨cb, 0, none⟩) := hS.o 0 (by decide)
        go_simp
        exact HK.out 12 _ _ rfl ⟨(hJ.pure (show (2 : Nat) ≠ 101 by decide) rfl), (set1_ne (by decide)).trans hl0, (set1_ne (by decide)).trans hl1⟩
      · go_simp
        have X' := Blk.new w' 3 (([-1, 3, 2] : List Int).map iv).toArray
        exact HK.out 13 _ _ rfl ⟨(hJ.al hOK (show (3 : Nat) ≠ 101 by decide) _ (fun _ => ⟨w'.heap.size, rfl, Nat.ne_of_gt hJ.w.cr.lt, lit_cells X'⟩)), (set1_ne (by decide)).trans hl0, (set1_ne (by decide)).trans hl1⟩
      · have s12 : b.tmps.getD 12 undef = .pointer (some ⟨cb, 0, none⟩) := (hS.i 12 (by decide)).trans (hJ.v 2 (hwt ⟨2, .data⟩ (by simp) rfl))
        obtain ⟨g', hgs, hg1, hg2⟩ : ∃ g, f 13 = .slice (some ⟨g, 0, none⟩) 3 3 ∧ g ≠ cb ∧ ∀ (j : Nat) (y : Int), ([-1, 3, 2] : List Int)[j]? = some y → w'.cell? ⟨g, j, none⟩ = some (.int .i64 y) := hJ.v 3 (hwt ⟨3, .data⟩ (by simp) rfl) hLi
        have s13 : b.tmps.getD 13 undef = .slice (some ⟨g', 0, none⟩) 3 3 := (hS.i 13 (by decide)).trans hgs
        have HG := Lib.hid hg2
        clear hg2 hgs
        go_simp
        refine (l1PickInt_any w' hJ.w.cr (g := g') (xs := [-1, 3, 2]) (n := 3) rfl (by omega) (by omega) HG.out hg1).mono ?_
        rintro e w'' ⟨q, hq, rfl, C', t'⟩
        clear hq
        go_simp
        exact HK.out 14 _ _ rfl ⟨(hJ.call hOK (show (4 : Nat) ≠ 101 by decide) t' C' ⟨_, rfl⟩), (set1_ne (by decide)).trans hl0, (set1_ne (by decide)).trans hl1⟩
      · have s11 : b.tmps.getD 11 undef = .slice (some ⟨ab, 0, none⟩) n c := (hS.i 11 (by decide)).trans (hJ.v 1 (hwt ⟨1, .data⟩ (by simp) rfl))
        go_simp
        exact HK.out 15 _ _ rfl ⟨(hJ.pure (show (5 : Nat) ≠ 101 by decide) rfl), (set1_ne (by decide)).trans hl0, (set1_ne (by decide)).trans hl1⟩
      · have L4 : L 4 = true := hwt ⟨4, .data⟩ (by simp) rfl
        have s15 : b.tmps.getD 15 undef = .pointer (some ⟨ab, 0, none⟩) := (hS.i 15 (by decide)).trans (hJ.v 5 (hwt ⟨5, .data⟩ (by simp) rfl))
        obtain ⟨z4, h4⟩ : ∃ z, f 14 = .int .i64 z := hJ.v 4 L4
        have s14 : b.tmps.getD 14 undef = .int .i64 z4 := (hS.i 14 (by decide)).trans h4
        clear h4
        obtain ⟨ws, hws, hvr⟩ := hJ.w.vr
        obtain ⟨v0, k0, kf⟩ := own_c0 hvr hws (by omega)
        clear hvr
        go_simp
        exact HN.out _ rfl ⟨(hJ.val hOK (show (6 : Nat) ≠ 101 by decide) rfl (fun j xs t hj _ => by rw [lit_of (t := 4) rfl hj]; exact L4) (fun j t hj => by have a := one_of (t := 98) rfl hj; have b := one_of (t := 99) rfl hj; omega) (fun j hj => by have a := app_of (k := 98) rfl hj; have b := app_of (k := 99) rfl hj; omega) hl1 rfl z4), (set1_ne (by decide)).trans hl0, (set1_ne (by decide)).trans hl1⟩
    case hend =>
      intro L f w' hall ⟨hJ, hl0, hl1⟩
      have x7 := hJ.w.xr
      obtain ⟨ws, hws, v7⟩ := hJ.w.vr
      have X7 := hJ.w.g0 hl1
      have o7 := hJ.w.o0 hl0
      have c7 := hJ.w.cr
      have t7 := hJ.w.tt
      have FE := Lib.hid (END.out w' (some ⟨ab, 0, none⟩) n c B es.length d ws es hn5 (by omega) x7 v7 o7 c7 t7)
      clear hJ hall v7 o7 c7 t7 END hOK XG X2 vr2 er2 T2 C3
      simp only [chs, Act.put, List.setIfInBounds_toArray, List.set_cons_zero, List.set_cons_succ]
      have d0_ := X7.cell 0
      have d1_ := X7.cell 1
      have r0_ := x7.cell 0
      have r1_ := x7.cell 1
      have q0_ := x7.frozen 0
      have q1_ := x7.frozen 1
      clear X7 x7
      go_wp2
      refine bodyPost_ret (v := .agg #[.slice (some ⟨ab, 0, none⟩) n c, .slice B es.length d]) ?_ rfl ?_
      · simp [results, Tryz.results56, go_sem]
        go_simp
      · exact ⟨_, _, _, _, _, _, rfl, by omega, by omega, FE.out⟩
  · by_cases h1 : q = 1
    · subst h1
      have hm1 : es.length ≤ 11 := hm
      have hOK : Rg.Ok ⟨w, cb, g, w.heap.size, .slice A n c, n, B, es.length, d, es, 13, 15⟩ := ⟨hcb, hxg, Nat.le_refl _, hxx, (by show (13 : Nat) ≠ 15; decide)⟩
      go_wp2_with fail
      refine wp_region_sl [18, 19, 20, 21, 22, 23, 24, 25, 26, 27, 28, 29, 30, 31, 32] (JJ ⟨w, cb, g, w.heap.size, .slice A n c, n, B, es.length, d, es, 13, 15⟩ (fun k => List.getD [.val (.pointer (some ⟨g, 1, none⟩)), .val (.slice B es.length d), .val (.pointer (some ⟨cb, 0, none⟩)), .lit [0, 1, 99, 100] 4, .int, .val (.pointer (some ⟨cb, 0, none⟩)), .int, .val (.pointer (some ⟨cb, 0, none⟩)), .int, .val (.pointer (some ⟨cb, 0, none⟩)), .int, .edge, .one 13, .app, .val (.pointer (some ⟨g, 1, none⟩)), .free] k .free) 18) (by kernel_rfl) (by kernel_rfl) (by decide) (by intro d hd; simp at hd; simp; omega) (by kernel_rfl) ?h0 ?hstep ?hend
      case h0 => exact ⟨(fun k hk => absurd hk Bool.false_ne_true), ⟨fun _ => XG.drew, (fun h => absurd h Bool.false_ne_true), fun _ => own_drew er2, X2.drew, ⟨vs, hvl, own_drew vr2⟩, C3.below ((Below.refl _ _).drew), T2.drew⟩⟩
      case hstep =>
        clear XG X2 vr2 er2 T2 C3 END
        intro i L f w' o b K ho hLi hwt hcl hJ hS HK HN
        have hi : i < 16 := by simpa using (Array.getElem?_eq_some_iff.1 ho).1
        rcases (show i = 0 ∨ i = 1 ∨ i = 2 ∨ i = 3 ∨ i = 4 ∨ i = 5 ∨ i = 6 ∨ i = 7 ∨ i = 8 ∨ i = 9 ∨ i = 10 ∨ i = 11 ∨ i = 12 ∨ i = 13 ∨ i = 14 ∨ i = 15 by omega) with rfl | rfl | rfl | rfl | rfl | rfl | rfl | rfl | rfl | rfl | rfl | rfl | rfl | rfl | rfl | rfl
        all_goals
          simp only [List.getElem?_toArray, List.getElem?_cons_zero, List.getElem?_cons_succ, Option.some.injEq] at ho
          subst ho
          clear hi
        · have s3 : b.tmps.getD 3 undef = .pointer (some ⟨g, 0, none⟩) := hS.o 3 (by decide)
          go_simp
          exact HK.out 18 _ _ rfl (hJ.pure (show (0 : Nat) ≠ 15 by decide) rfl)
        · have s18 : b.tmps.getD 18 undef = .pointer (some ⟨g, 1, none⟩) := (hS.i 18 (by decide)).trans (hJ.v 0 (hwt ⟨0, .data⟩ (by simp) rfl))
          have X0 := hJ.w.g0 (by cases h : L 15 with | false => rfl | true => exact absurd (hcl 13 _ rfl (hcl 15 _ rfl h ⟨13, .data⟩ (by simp) rfl) ⟨1, .data⟩ (by simp) rfl) (by rw [hLi]; simp))
          have k1 : w'.cell? ⟨g, 1, none⟩ = some (.slice B es.length d) := by rw [X0.cell]; rfl
          go_simp
          exact HK.out 19 _ _ rfl (hJ.pure (show (1 : Nat) ≠ 15 by decide) rfl)
        · have s0 : b.tmps.getD 0 undef = .pointer (some ⟨cb, 0, none⟩) := hS.o 0 (by decide)
          go_simp
          exact HK.out 20 _ _ rfl (hJ.pure (show (2 : Nat) ≠ 15 by decide) rfl)
        · go_simp
          have X' := Blk.new w' 3 (([0, 1, 99, 100] : List Int).map iv).toArray
          exact HK.out 21 _ _ rfl (hJ.al hOK (show (3 : Nat) ≠ 15 by decide) _ (fun _ => ⟨w'.heap.size, rfl, Nat.ne_of_gt hJ.w.cr.lt, lit_cells X'⟩))
        · have s20 : b.tmps.getD 20 undef = .pointer (some ⟨cb, 0, none⟩) := (hS.i 20 (by decide)).trans (hJ.v 2 (hwt ⟨2, .data⟩ (by simp) rfl))
          obtain ⟨g', hgs, hg1, hg2⟩ : ∃ g, f 21 = .slice (some ⟨g, 0, none⟩) 4 4 ∧ g ≠ cb ∧ ∀ (j : Nat) (y : Int), ([0, 1, 99, 100] : List Int)[j]? = some y → w'.cell? ⟨g, j, none⟩ = some (.int .i64 y) := hJ.v 3 (hwt ⟨3, .data⟩ (by simp) rfl) hLi
          have s21 : b.tmps.getD 21 undef = .slice (some ⟨g', 0, none⟩) 4 4 := (hS.i 21 (by decide)).trans hgs
          have HG := Lib.hid hg2
          clear hg2 hgs
          go_simp
          refine (l1PickInt_any w' hJ.w.cr (g := g') (xs := [0, 1, 99, 100]) (n := 4) rfl (by omega) (by omega) HG.out hg1).mono ?_
          rintro e w'' ⟨q, hq, rfl, C', t'⟩
          clear hq
          go_simp
          exact HK.out 22 _ _ rfl (hJ.call hOK (show (4 : Nat) ≠ 15 by decide) t' C' ⟨_, rfl⟩)
        · have s0 : b.tmps.getD 0 undef = .pointer (some ⟨cb, 0, none⟩) := hS.o 0 (by decide)
          go_simp
          exact HK.out 23 _ _ rfl (hJ.pure (show (5 : Nat) ≠ 15 by decide) rfl)
        · have s23 : b.tmps.getD 23 undef = .pointer (some ⟨cb, 0, none⟩) := (hS.i 23 (by decide)).trans (hJ.v 5 (hwt ⟨5, .data⟩ (by simp) rfl))
          go_simp
          refine (l1Below_all w' hJ.w.cr 6 (by omega)).mono ?_
          rintro e w'' ⟨q, rfl, hq0, hq1, C', t'⟩
          go_simp
          exact HK.out 24 _ _ rfl (hJ.call hOK (show (6 : Nat) ≠ 15 by decide) t' C' ⟨_, rfl⟩)
        · have s0 : b.tmps.getD 0 undef = .pointer (some ⟨cb, 0, none⟩) := hS.o 0 (by decide)
          go_simp
          exact HK.out 25 _ _ rfl (hJ.pure (show (7 : Nat) ≠ 15 by decide) rfl)
        · have s25 : b.tmps.getD 25 undef = .pointer (some ⟨cb, 0, none⟩) := (hS.i 25 (by decide)).trans (hJ.v 7 (hwt ⟨7, .data⟩ (by simp) rfl))
          go_simp
          refine (l1Below_all w' hJ.w.cr 6 (by omega)).mono ?_
          rintro e w'' ⟨q, rfl, hq0, hq1, C', t'⟩
          go_simp
          exact HK.out 26 _ _ rfl (hJ.call hOK (show (8 : Nat) ≠ 15 by decide) t' C' ⟨_, rfl⟩)
        · have s0 : b.tmps.getD 0 undef = .pointer (some ⟨cb, 0, none⟩) := hS.o 0 (by decide)
          go_simp
          exact HK.out 27 _ _ rfl (hJ.pure (show (9 : Nat) ≠ 15 by decide) rfl)
        · have s27 : b.tmps.getD 27 undef = .pointer (some ⟨cb, 0, none⟩) := (hS.i 27 (by decide)).trans (hJ.v 9 (hwt ⟨9, .data⟩ (by simp) rfl))
          go_simp
          refine (l1Below_all w' hJ.w.cr 4 (by omega)).mono ?_
          rintro e w'' ⟨q, rfl, hq0, hq1, C', t'⟩
          go_simp
          exact HK.out 28 _ _ rfl (hJ.call hOK (show (10 : Nat) ≠ 15 by decide) t' C' ⟨_, rfl⟩)
        · obtain ⟨z4, h4⟩ : ∃ z, f 22 = .int .i64 z := hJ.v 4 (hwt ⟨4, .data⟩ (by simp) rfl)
          have s22 : b.tmps.getD 22 undef = .int .i64 z4 := (hS.i 22 (by decide)).trans h4
          clear h4
          rw [Array.getD_eq_getD_getElem?] at s22
          obtain ⟨z6, h6⟩ : ∃ z, f 24 = .int .i64 z := hJ.v 6 (hwt ⟨6, .data⟩ (by simp) rfl)
          have s24 : b.tmps.getD 24 undef = .int .i64 z6 := (hS.i 24 (by decide)).trans h6
          clear h6
          rw [Array.getD_eq_getD_getElem?] at s24
          obtain ⟨z8, h8⟩ : ∃ z, f 26 = .int .i64 z := hJ.v 8 (hwt ⟨8, .data⟩ (by simp) rfl)
          have s26 : b.tmps.getD 26 undef = .int .i64 z8 := (hS.i 26 (by decide)).trans h8
          clear h8
          rw [Array.getD_eq_getD_getElem?] at s26
          obtain ⟨z10, h10⟩ : ∃ z, f 28 = .int .i64 z := hJ.v 10 (hwt ⟨10, .data⟩ (by simp) rfl)
          have s28 : b.tmps.getD 28 undef = .int .i64 z10 := (hS.i 28 (by decide)).trans h10
          clear h10
          rw [Array.getD_eq_getD_getElem?] at s28
          go_simp
          exact HK.out 29 _ _ rfl (hJ.pure (show (11 : Nat) ≠ 15 by decide) ⟨⟨z4, z6, z8, z10⟩, rfl⟩)
        · obtain ⟨x', hx'⟩ : ∃ e : E, f 29 = .agg #[.int .i64 e.id, .int .i64 e.fr, .int .i64 e.to, .int .i64 e.lb] := hJ.v 11 (hwt ⟨11, .data⟩ (by simp) rfl)
          have s29 : b.tmps.getD 29 undef = .agg #[.int .i64 x'.id, .int .i64 x'.fr, .int .i64 x'.to, .int .i64 x'.lb] := (hS.i 29 (by decide)).trans hx'
          clear hx'
          rw [Array.getD_eq_getD_getElem?] at s29
          go_simp
          have X' := Blk.new w' 29 (ecs [x']).toArray
          exact HK.out 30 _ _ rfl (hJ.al hOK (show (12 : Nat) ≠ 15 by decide) _ (fun _ => ⟨w'.heap.size, x', rfl, Nat.ne_of_gt hJ.w.cr.lt, by simp, fun j u hu => (X'.cell j).trans (by rw [List.getElem?_toArray]; exact hu)⟩))
        · have L12 : L 12 = true := hwt ⟨12, .data⟩ (by simp) rfl
          have L11 : L 11 = true := hcl 12 _ rfl L12 ⟨11, .data⟩ (by simp) rfl
          have L4 : L 4 = true := hcl 11 _ rfl L11 ⟨4, .data⟩ (by simp) rfl
          have s19 : b.tmps.getD 19 undef = .slice B es.length d := (hS.i 19 (by decide)).trans (hJ.v 1 (hwt ⟨1, .data⟩ (by simp) rfl))
          obtain ⟨g', x', hgs, hg0, hg1, hg2⟩ : ∃ (g : Nat) (e : E), f 30 = .slice (some ⟨g, 0, none⟩) 1 1 ∧ g ≠ cb ∧ g < w'.heap.size ∧ ∀ (j : Nat) (u : Value), (ecs [e])[j]? = some u → w'.cell? ⟨g, j, none⟩ = some u := hJ.v 12 L12 hLi
          have s30 : b.tmps.getD 30 undef = .slice (some ⟨g', 0, none⟩) 1 1 := (hS.i 30 (by decide)).trans hgs
          have rd : Reads w' w'.heap.size 4 (some ⟨g', 0, none⟩) 1 (ecs [x']) := row_reads rfl hg1 hg2
          have o0 := hJ.w.o0 hLi
          have q3 : Small (es.length + 1) := small_of (by omega)
          have hle : w.heap.size ≤ w'.heap.size := hJ.w.tt.size
          refine ap_step _ app_edge (by decide) w.heap.size (.tmp 19) (.tmp 30) rfl rfl _ _ _ s19 o0 _ _ 1 1 _ s30 rd (ecs_one _) q3 hle ?_
          intro v7 w7 hown7 hg7 hat7
          have hown8 : w7.ownsRow w.heap.size 29 4 v7 (es.length + 1) (ecs (es ++ [x'])) := by rw [ecs_append]; exact hown7
          obtain ⟨B7, d7, rfl, _⟩ := own_form hown8
          exact HK.out 31 _ _ rfl (hJ.app hOK hLi (fun hs => hcl 15 _ rfl hs ⟨13, .data⟩ (by simp) rfl) (fun j xs t hj _ => by rw [lit_of (t := 4) rfl hj]; exact L4) (fun j t hj => one_of (t := 13) rfl hj) (fun j hj => app_of (k := 13) rfl hj) rfl hg7 hown8)
        · have s3 : b.tmps.getD 3 undef = .pointer (some ⟨g, 0, none⟩) := hS.o 3 (by decide)
          go_simp
          exact HK.out 32 _ _ rfl (hJ.pure (show (14 : Nat) ≠ 15 by decide) rfl)
        · have L13 : L 13 = true := hwt ⟨13, .data⟩ (by simp) rfl
          have s32 : b.tmps.getD 32 undef = .pointer (some ⟨g, 1, none⟩) := (hS.i 32 (by decide)).trans (hJ.v 14 (hwt ⟨14, .data⟩ (by simp) rfl))
          obtain ⟨B7, d7, x7, hgs, hown7⟩ : ∃ B d e, f 31 = .slice B (es.length + 1) d ∧ w'.ownsRow w.heap.size 29 4 (.slice B (es.length + 1) d) (es.length + 1) (ecs (es ++ [e])) := hJ.v 13 L13
          have s31 : b.tmps.getD 31 undef = .slice B7 (es.length + 1) d7 := (hS.i 31 (by decide)).trans hgs
          have X0 := hJ.w.g0 hLi
          have k1 : w'.cell? ⟨g, 1, none⟩ = some (.slice B es.length d) := by rw [X0.cell]; rfl
          have kf : w'.frozen? ⟨g, 1, none⟩ = false := X0.frozen 1
          have L12 : L 12 = true := hcl 13 _ rfl L13 ⟨12, .data⟩ (by simp) rfl
          have L11 : L 11 = true := hcl 12 _ rfl L12 ⟨11, .data⟩ (by simp) rfl
          have L4 : L 4 = true := hcl 11 _ rfl L11 ⟨4, .data⟩ (by simp) rfl
          clear hgs
          go_simp
          exact HN.out _ rfl (hJ.sto hOK hLi L13 (fun j xs t hj _ => by rw [lit_of (t := 4) rfl hj]; exact L4) (fun j t hj => one_of (t := 13) rfl hj) rfl hown7)
      case hend =>
        intro L f w' hall hJ
        have x7 := hJ.w.xr
        obtain ⟨ws, hws, v7⟩ := hJ.w.vr
        obtain ⟨B7, d7, e7, X7, o7⟩ := hJ.w.g1 (hall 15 (by decide))
        have c7 := hJ.w.cr
        have t7 := hJ.w.tt
        have FE := Lib.hid (END.out w' A n c B7 (es.length + 1) d7 ws (es ++ [e7]) hn5 (by omega) x7 v7 o7 c7 t7)
        clear hJ hall v7 o7 c7 t7 END hOK XG X2 vr2 er2 T2 C3
        simp only [chs, Act.put, List.setIfInBounds_toArray, List.set_cons_zero, List.set_cons_succ]
        have d0_ := X7.cell 0
        have d1_ := X7.cell 1
        have r0_ := x7.cell 0
        have r1_ := x7.cell 1
        have q0_ := x7.frozen 0
        have q1_ := x7.frozen 1
        clear X7 x7
        go_wp2
        refine bodyPost_ret (v := .agg #[.slice (A) n c, .slice B7 (es.length + 1) d7]) ?_ rfl ?_
        · simp [results, Tryz.results56, go_sem]
          go_simp
        · exact ⟨_, _, _, _, _, _, rfl, by omega, by omega, FE.out⟩
    · by_cases h2 : q = 2
      · subst h2
        have x0 := XG.cell 0
        have f0 := XG.frozen 0
        have X7 := XG.set_ 0 (.slice none 0 0)
        have x7 := X2.far_ (Ne.symm hxx) 0 (.slice none 0 0)
        have o7 := own_set (i := 0) (u := .slice none 0 0) er2 XG (by decide)
        have c7 := C3.tch ((Tch.refl g (g + 1) w3).setCell (p := ⟨g, 0, none⟩) (Nat.le_refl _) (Nat.lt_succ_self _) (.slice none 0 0)) (by omega)
        have t7 := T2.past hxg 0 (.slice none 0 0)
        have FE := Lib.hid (END.out _ none 0 0 B es.length d [] es (by omega) (by omega) x7 (World.ownsRow_nil _ _ _ _) o7 c7 t7)
        obtain ⟨w7, hw7⟩ : ∃ w7, w3.setCell ⟨g, 0, none⟩ (.slice none 0 0) = w7 := ⟨_, rfl⟩
        rw [hw7] at X7 x7 FE
        replace X7 : Blk w7 g 27 #[.slice none 0 0, .slice B es.length d] := X7
        clear o7 c7 t7 END X2 vr2 er2 T2 C3 XG
        have d0_ := X7.cell 0
        have d1_ := X7.cell 1
        have r0_ := x7.cell 0
        have r1_ := x7.cell 1
        have q0_ := x7.frozen 0
        have q1_ := x7.frozen 1
        clear X7 x7
        go_wp2
        refine bodyPost_ret (v := .agg #[.slice (none) 0 0, .slice B es.length d]) ?_ rfl ?_
        · simp [results, Tryz.results56, go_sem]
          go_simp
        · exact ⟨_, _, _, _, _, _, rfl, by omega, by omega, FE.out⟩
      · have FE := Lib.hid (END.out w3 A n c B es.length d vs es hn5 (by omega) X2 vr2 er2 C3 T2)
        clear END vr2 er2 T2 C3
        have d0_ := XG.cell 0
        have d1_ := XG.cell 1
        have r0_ := X2.cell 0
        have r1_ := X2.cell 1
        have q0_ := X2.frozen 0
        have q1_ := X2.frozen 1
        clear XG X2
        go_wp2
        refine bodyPost_ret (v := .agg #[.slice (A) n c, .slice B es.length d]) ?_ rfl ?_
        · simp [results, Tryz.results56, go_sem]
          go_simp
        · exact ⟨_, _, _, _, _, _, rfl, by omega, by omega, FE.out⟩
theorem draw_end {z : World} {g lo hi : Nat} {A : Option Addr} {n c : Nat} {B : Option Addr} {m d : Nat} {vs : List Int} {es : List E} (J : GIs z lo hi A n c B m d (vs.map iv) (ecs es)) (hg : g < lo) (hn : n ≤ 5) (hm : m ≤ 12) (u v : Value) : GRd ((z.setCell ⟨g, 0, none⟩ u).setCell ⟨g, 1, none⟩ v) A n B m ⟨vs, es⟩ := by
  have J2 : GIs ((z.setCell ⟨g, 0, none⟩ u).setCell ⟨g, 1, none⟩ v) lo hi A n c B m d (vs.map iv) (ecs es) := ⟨(J.ou.setB (p := ⟨g, 0, none⟩) hg u).setB (p := ⟨g, 1, none⟩) hg v, (J.ov.setB (p := ⟨g, 0, none⟩) hg u).setB (p := ⟨g, 1, none⟩) hg v⟩
  exact ⟨GIs.greads (g := ⟨vs, es⟩) J2, by omega, by omega⟩
end Go.Proofs.YtljggmgijadjaaaGreatDoor
