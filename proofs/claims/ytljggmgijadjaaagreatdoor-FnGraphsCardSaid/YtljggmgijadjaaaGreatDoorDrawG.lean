/- A graph drawn: l3Graph. (Printed by wip/drw_g.py out of DrawG.head.) -/
import Derived.Test.YtljggmgijadjaaaGreatDoorDrwS
namespace Go.Proofs.YtljggmgijadjaaaGreatDoor
open Go.RowKit Go.ChangeShapes Go.WideShapes Go.ChangeAt Go.Deep
set_option linter.unusedVariables false
theorem box0 {r : Rg} {L : Nat → Bool} {w' : World} (h : WW r L w') : w'.cell? ⟨r.xg, 0, none⟩ = some r.V := by
  cases hl : L r.is with
  | false =>
    rw [(h.g0 hl).cell]
    rfl
  | true =>
    obtain ⟨B, d, e, X, _⟩ := h.g1 hl
    rw [X.cell]
    rfl
set_option maxRecDepth 4000 in
set_option maxHeartbeats 4000000 in
theorem l3Graph_any (w : World) {cb : Nat} (hC : Cur w cb) :
    Calls Tryz.prog 74 #[.pointer (some ⟨cb, 0, none⟩)] w fun e w' => ∃ A n c B m d, e = .returned (.agg #[.slice A n c, .slice B m d]) ∧ 2 ≤ n ∧ n ≤ 5 ∧ m ≤ 11 ∧ (∃ vs es, GIs w' w.heap.size w'.heap.size A n c B m d (List.map iv vs) (ecs es)) ∧ Cur w' cb ∧ Tch cb (cb + 1) w w' := by
  have hcb := hC.lt
  have hB1 : Below w.heap.size w (((w.alloc (.cells #[.slice none 0 0, .slice none 0 0] 27)).alloc (.cells #[.slice none 0 0, .slice none 0 0] 27)).alloc (.cells #[.int .i64 2, .int .i64 3, .int .i64 4, .int .i64 4, .int .i64 5] 3)) := (((Below.refl _ _).alloc (Nat.le_refl _) _).alloc (by simp) _).alloc (by simp; omega) _
  have XR := ((Blk.new w 27 #[.slice none 0 0, .slice none 0 0]).alloc (.cells #[.slice none 0 0, .slice none 0 0] 27)).alloc (.cells #[.int .i64 2, .int .i64 3, .int .i64 4, .int .i64 4, .int .i64 5] 3)
  have XG := (Blk.new (w.alloc (.cells #[.slice none 0 0, .slice none 0 0] 27)) 27 #[.slice none 0 0, .slice none 0 0]).alloc (.cells #[.int .i64 2, .int .i64 3, .int .i64 4, .int .i64 4, .int .i64 5] 3)
  have XL := Blk.new ((w.alloc (.cells #[.slice none 0 0, .slice none 0 0] 27)).alloc (.cells #[.slice none 0 0, .slice none 0 0] 27)) 3 #[.int .i64 2, .int .i64 3, .int .i64 4, .int .i64 4, .int .i64 5]
  simp only [World.size_alloc] at XG XL
  go_enter Tryz.func74, Tryz.ntmps74
  go_wp2_with fail
  generalize (((w.alloc (.cells #[.slice none 0 0, .slice none 0 0] 27)).alloc (.cells #[.slice none 0 0, .slice none 0 0] 27)).alloc (.cells #[.int .i64 2, .int .i64 3, .int .i64 4, .int .i64 4, .int .i64 5] 3)) = w1 at *
  have hx1 := XL.lt
  refine (l1PickInt_any _ (hC.below hB1) (xs := [2, 3, 4, 4, 5]) (n := 5) rfl (by omega) (by omega) (fun j x hx => by rw [XL.cell]; (rcases j with _ | _ | _ | _ | _ | j) <;> simp_all) (by omega)).mono ?_
  rintro e w2 ⟨x, hx, rfl, C2, t2⟩
  obtain ⟨N, rfl, hN2, hN5⟩ : ∃ N : Nat, x = (N : Int) ∧ 2 ≤ N ∧ N ≤ 5 := by
    refine ⟨x.toNat, ?_⟩
    simp at hx
    omega
  replace XR := XR.tch t2 (by omega)
  replace XG := XG.tch t2 (by omega)
  have T2 : Tch cb (cb + 1) w w2 := (Tch.of_below hB1).trans t2
  have hz2 := t2.size
  clear XL hx t2 hB1
  go_wp2
  go_loopw [4] (fun i wr => ∃ (p : Nat) (v : Value) (vs : List Int), i = .int .i64 p ∧ vs.length + p = N ∧ Blk wr (w.heap.size + 1) 27 #[v, .slice none 0 0] ∧ Blk wr w.heap.size 27 #[.slice none 0 0, .slice none 0 0] ∧ wr.ownsRow w2.heap.size 3 1 v vs.length (vs.map iv) ∧ Cur wr cb ∧ Tch cb (cb + 1) w wr ∧ w2.heap.size ≤ wr.heap.size) (fun i _ => (intOf i).toNat)
  case atStart => exact ⟨N, _, [], rfl, by simp, XG, XR, World.ownsRow_nil _ _ _ _, C2, T2, Nat.le_refl _⟩
  clear XG XR C2 T2
  case round =>
    obtain ⟨p, v, vs, rfl, hp, XG, XR, hown, CR, T, hsz⟩ := hrel
    have xB : wr.cell? ⟨w.heap.size + 1, 0, none⟩ = some v := by rw [XG.cell]; rfl
    rcases Nat.eq_zero_or_pos p with rfl | hp0
    · have hpos : ¬ (0 : Int) < ((0 : Nat) : Int) := by omega
      have hvl : 2 ≤ vs.length ∧ vs.length ≤ 5 := by omega
      clear hp
      have bL : Below wr.heap.size wr (wr.alloc (.cells #[.int .i64 4, .int .i64 8, .int .i64 11] 3)) := (Below.refl _ _).alloc (Nat.le_refl _) _
      have XL := Blk.new wr 3 #[.int .i64 4, .int .i64 8, .int .i64 11]
      have hcr := CR.lt
      go_wp2_with fail
      refine (l1PickInt_any _ (CR.below bL) (xs := [4, 8, 11]) (n := 3) rfl (by omega) (by omega) (fun j x hx => by rw [XL.cell]; (rcases j with _ | _ | _ | j) <;> simp_all) (by omega)).mono ?_
      rintro e w3 ⟨x, hx, rfl, C3, t3⟩
      have hx4 : 4 ≤ x ∧ x ≤ 11 := by
        simp at hx
        omega
      clear XL hx
      go_wp2_with fail
      refine (l1Below_any _ C3 x (by omega) (by omega)).mono ?_
      rintro e w4 ⟨y, rfl, hy0, hy1, C4, t4⟩
      have T4 : Tch cb (cb + 1) wr w4 := ((Tch.of_below bL).trans t3).trans t4
      replace XG := XG.tch T4 (by omega)
      replace XR := XR.tch T4 (by omega)
      replace hown := own_tch hown T4 (by omega)
      replace T := T.trans T4
      have hz4 := T4.size
      obtain ⟨M, rfl, hM⟩ : ∃ M : Nat, y = (M : Int) ∧ M ≤ 11 := ⟨y.toNat, by omega⟩
      clear t3 t4 T4 C3 CR bL xB
      obtain ⟨B1, d1, rfl, _⟩ := own_form hown
      have vr := own_rebase hown (show w.heap.size ≤ w2.heap.size by omega)
      clear hown hsz hz4
      go_wp2
      go_loopw [5, 6] (fun z i wr => ∃ (p : Nat) (id : Int) (u : Value) (es : List E), z = .int .i64 id ∧ i = .int .i64 p ∧ es.length + p = M ∧ Blk wr (w.heap.size + 1) 27 #[.slice B1 vs.length d1, u] ∧ Blk wr w.heap.size 27 #[.slice none 0 0, .slice none 0 0] ∧ (∃ ws : List Int, ws.length = vs.length ∧ wr.ownsRow w.heap.size 3 1 (.slice B1 vs.length d1) vs.length (ws.map iv)) ∧ wr.ownsRow w.heap.size 29 4 u es.length (ecs es) ∧ Cur wr cb ∧ Tch cb (cb + 1) w wr) (fun _ i _ => (intOf i).toNat)
      case atStart => exact ⟨M, 0, _, [], rfl, rfl, by simp, XG, XR, ⟨vs, rfl, vr⟩, World.ownsRow_nil _ _ _ _, C4, T⟩
      clear XG XR vr C4 T
      case round =>
        obtain ⟨p, id, u, es, rfl, rfl, hp, XG, XR, ⟨ws, hws, vr⟩, hown, CR, T⟩ := hrel
        obtain ⟨E1, f1, rfl, _⟩ := own_form hown
        have x0 : wr.cell? ⟨w.heap.size + 1, 0, none⟩ = some (.slice B1 vs.length d1) := by rw [XG.cell]; rfl
        have x1 : wr.cell? ⟨w.heap.size + 1, 1, none⟩ = some (.slice E1 es.length f1) := by rw [XG.cell]; rfl
        have hcl := CR.lt
        rcases Nat.eq_zero_or_pos p with rfl | hp0
        · have hpos : ¬ (0 : Int) < ((0 : Nat) : Int) := by omega
          have r0 : wr.cell? ⟨w.heap.size, 0, none⟩ = some (.slice none 0 0) := by rw [XR.cell]; rfl
          have r1 : wr.cell? ⟨w.heap.size, 1, none⟩ = some (.slice none 0 0) := by rw [XR.cell]; rfl
          have f0 := XR.frozen 0
          have f1' := XR.frozen 1
          have o6 := own_set (i := 1) (u := .slice E1 es.length f1) (own_set (i := 0) (u := .slice B1 vs.length d1) hown XR (by decide)) (XR.set_ 0 _) (by decide)
          have v6 := own_set (i := 1) (u := .slice E1 es.length f1) (own_set (i := 0) (u := .slice B1 vs.length d1) vr XR (by decide)) (XR.set_ 0 _) (by decide)
          have C6 := (CR.tch ((Tch.refl w.heap.size (w.heap.size + 1) wr).setCell (p := ⟨w.heap.size, 0, none⟩) (Nat.le_refl _) (Nat.lt_succ_self _) (.slice B1 vs.length d1)) hcb).tch ((Tch.refl w.heap.size (w.heap.size + 1) _).setCell (p := ⟨w.heap.size, 1, none⟩) (Nat.le_refl _) (Nat.lt_succ_self _) (.slice E1 es.length f1)) hcb
          have t6 := (T.past (Nat.le_refl _) 0 (.slice B1 vs.length d1)).past (Nat.le_refl _) 1 (.slice E1 es.length f1)
          go_wp2
          refine bodyPost_ret (v := .agg #[.slice B1 vs.length d1, .slice E1 es.length f1]) ?_ rfl ?_
          · simp [results, Tryz.results74, go_sem]
            go_simp
          · exact ⟨_, _, _, _, _, _, rfl, by omega, by omega, by omega, ⟨ws, es, ⟨RIs.of v6 (by omega), RIs.of o6 (by omega)⟩⟩, C6, t6⟩
        · obtain ⟨r, rfl⟩ : ∃ r, p = r + 1 := ⟨p - 1, by omega⟩
          have hpos : (0 : Int) < ((r + 1 : Nat) : Int) := by omega
          have hwr : IntKind.i64.wrap (((r + 1 : Nat) : Int) - 1) = (r : Int) := by rw [IntKind.wrap_i64]; omega
          go_wp2_with fail
          refine (l1Below_any _ CR 3 (by omega) (by omega)).mono ?_
          rintro e w5 ⟨q, rfl, hq0, hq1, C5, t5⟩
          replace XG := XG.tch t5 (by omega)
          replace XR := XR.tch t5 (by omega)
          replace hown := own_tch hown t5 hcb
          replace vr := own_tch vr t5 hcb
          replace T := T.trans t5
          have hm1 : es.length ≤ 11 := by omega
          have hOK : Rg.Ok ⟨w, cb, w.heap.size + 1, w.heap.size, .slice B1 vs.length d1, vs.length, E1, es.length, f1, es, 18, 20⟩ := ⟨hcb, Nat.le_succ _, Nat.le_refl _, Nat.succ_ne_self _, (by show (18 : Nat) ≠ 20; decide)⟩
          clear x0 x1 t5 CR
          go_wp2_with fail
          refine wp_region_sl [36, 37, 38, 39, 40, 41, 42, 43, 44, 45, 46, 47, 48, 49, 50, 51, 52, 53, 54, 55] (JJ ⟨w, cb, w.heap.size + 1, w.heap.size, .slice B1 vs.length d1, vs.length, E1, es.length, f1, es, 18, 20⟩ (fun k => List.getD [.val (.pointer (some ⟨w.heap.size + 1, 1, none⟩)), .val (.slice E1 es.length f1), .int, .val (.pointer (some ⟨cb, 0, none⟩)), .val (.pointer (some ⟨w.heap.size + 1, 0, none⟩)), .val (.slice B1 vs.length d1), .val (.int .i64 vs.length), .int, .val (.pointer (some ⟨cb, 0, none⟩)), .val (.pointer (some ⟨w.heap.size + 1, 0, none⟩)), .val (.slice B1 vs.length d1), .val (.int .i64 vs.length), .int, .val (.pointer (some ⟨cb, 0, none⟩)), .lit [0, 0, 1, 2] 15, .int, .edge, .one 18, .app, .val (.pointer (some ⟨w.heap.size + 1, 1, none⟩)), .free] k .free) 36) (by kernel_rfl) (by kernel_rfl) (by decide) (by intro d hd; simp at hd; simp; omega) (by kernel_rfl) ?h0 ?hstep ?hend
          case h0 => exact ⟨(fun k hk => absurd hk Bool.false_ne_true), ⟨fun _ => XG.drew, (fun h => absurd h Bool.false_ne_true), fun _ => own_drew hown, XR.drew, ⟨ws, hws, own_drew vr⟩, C5.below ((Below.refl _ _).drew), T.drew⟩⟩
          case hstep =>
            clear XG XR hown vr hws T C5 hwr hpos
            intro i L f w' o b K ho hLi hwt hcl hJ hS HK HN
            have hi : i < 21 := by simpa using (Array.getElem?_eq_some_iff.1 ho).1
            rcases (show i = 0 ∨ i = 1 ∨ i = 2 ∨ i = 3 ∨ i = 4 ∨ i = 5 ∨ i = 6 ∨ i = 7 ∨ i = 8 ∨ i = 9 ∨ i = 10 ∨ i = 11 ∨ i = 12 ∨ i = 13 ∨ i = 14 ∨ i = 15 ∨ i = 16 ∨ i = 17 ∨ i = 18 ∨ i = 19 ∨ i = 20 by omega) with rfl | rfl | rfl | rfl | rfl | rfl | rfl | rfl | rfl | rfl | rfl | rfl | rfl | rfl | rfl | rfl | rfl | rfl | rfl | rfl | rfl
            all_goals
              simp only [List.getElem?_toArray, List.getElem?_cons_zero, List.getElem?_cons_succ, Option.some.injEq] at ho
              subst ho
              clear hi
            · have s3 : b.tmps.getD 3 undef = .pointer (some ⟨w.heap.size + 1, 0, none⟩) := hS.o 3 (by decide)
              go_simp
              exact HK.out 36 _ _ rfl (hJ.pure (show (0 : Nat) ≠ 20 by decide) rfl)
            · have s36 : b.tmps.getD 36 undef = .pointer (some ⟨w.heap.size + 1, 1, none⟩) := (hS.i 36 (by decide)).trans (hJ.v 0 (hwt ⟨0, .data⟩ (by simp) rfl))
              have X0 := hJ.w.g0 (by cases h : L 20 with | false => rfl | true => exact absurd (hcl 18 _ rfl (hcl 20 _ rfl h ⟨18, .data⟩ (by simp) rfl) ⟨1, .data⟩ (by simp) rfl) (by rw [hLi]; simp))
              have k1 : w'.cell? ⟨w.heap.size + 1, 1, none⟩ = some (.slice E1 es.length f1) := by rw [X0.cell]; rfl
              go_simp
              exact HK.out 37 _ _ rfl (hJ.pure (show (1 : Nat) ≠ 20 by decide) rfl)
            · have s5 : b.tmps.getD 5 undef = _ := hS.o 5 (by decide)
              go_simp
              exact HK.out 38 _ _ rfl (hJ.pure (show (2 : Nat) ≠ 20 by decide) ⟨_, rfl⟩)
            · have s0 : b.tmps.getD 0 undef = .pointer (some ⟨cb, 0, none⟩) := hS.o 0 (by decide)
              go_simp
              exact HK.out 39 _ _ rfl (hJ.pure (show (3 : Nat) ≠ 20 by decide) rfl)
            · have s3 : b.tmps.getD 3 undef = .pointer (some ⟨w.heap.size + 1, 0, none⟩) := hS.o 3 (by decide)
              go_simp
              exact HK.out 40 _ _ rfl (hJ.pure (show (4 : Nat) ≠ 20 by decide) rfl)
            · have s40 : b.tmps.getD 40 undef = .pointer (some ⟨w.heap.size + 1, 0, none⟩) := (hS.i 40 (by decide)).trans (hJ.v 4 (hwt ⟨4, .data⟩ (by simp) rfl))
              have k0 := box0 hJ.w
              go_simp
              exact HK.out 41 _ _ rfl (hJ.pure (show (5 : Nat) ≠ 20 by decide) rfl)
            · have s41 : b.tmps.getD 41 undef = .slice B1 vs.length d1 := (hS.i 41 (by decide)).trans (hJ.v 5 (hwt ⟨5, .data⟩ (by simp) rfl))
              go_simp
              exact HK.out 42 _ _ rfl (hJ.pure (show (6 : Nat) ≠ 20 by decide) rfl)
            · have s39 : b.tmps.getD 39 undef = .pointer (some ⟨cb, 0, none⟩) := (hS.i 39 (by decide)).trans (hJ.v 3 (hwt ⟨3, .data⟩ (by simp) rfl))
              have s42 : b.tmps.getD 42 undef = .int .i64 vs.length := (hS.i 42 (by decide)).trans (hJ.v 6 (hwt ⟨6, .data⟩ (by simp) rfl))
              go_simp
              refine (l1Below_all w' hJ.w.cr vs.length (by omega)).mono ?_
              rintro e w'' ⟨q, rfl, hq0, hq1, C', t'⟩
              go_simp
              exact HK.out 43 _ _ rfl (hJ.call hOK (show (7 : Nat) ≠ 20 by decide) t' C' ⟨_, rfl⟩)
            · have s0 : b.tmps.getD 0 undef = .pointer (some ⟨cb, 0, none⟩) := hS.o 0 (by decide)
              go_simp
              exact HK.out 44 _ _ rfl (hJ.pure (show (8 : Nat) ≠ 20 by decide) rfl)
            · have s3 : b.tmps.getD 3 undef = .pointer (some ⟨w.heap.size + 1, 0, none⟩) := hS.o 3 (by decide)
              go_simp
              exact HK.out 45 _ _ rfl (hJ.pure (show (9 : Nat) ≠ 20 by decide) rfl)
            · have s45 : b.tmps.getD 45 undef = .pointer (some ⟨w.heap.size + 1, 0, none⟩) := (hS.i 45 (by decide)).trans (hJ.v 9 (hwt ⟨9, .data⟩ (by simp) rfl))
              have k0 := box0 hJ.w
              go_simp
              exact HK.out 46 _ _ rfl (hJ.pure (show (10 : Nat) ≠ 20 by decide) rfl)
            · have s46 : b.tmps.getD 46 undef = .slice B1 vs.length d1 := (hS.i 46 (by decide)).trans (hJ.v 10 (hwt ⟨10, .data⟩ (by simp) rfl))
              go_simp
              exact HK.out 47 _ _ rfl (hJ.pure (show (11 : Nat) ≠ 20 by decide) rfl)
            · have s44 : b.tmps.getD 44 undef = .pointer (some ⟨cb, 0, none⟩) := (hS.i 44 (by decide)).trans (hJ.v 8 (hwt ⟨8, .data⟩ (by simp) rfl))
              have s47 : b.tmps.getD 47 undef = .int .i64 vs.length := (hS.i 47 (by decide)).trans (hJ.v 11 (hwt ⟨11, .data⟩ (by simp) rfl))
              go_simp
              refine (l1Below_all w' hJ.w.cr vs.length (by omega)).mono ?_
              rintro e w'' ⟨q, rfl, hq0, hq1, C', t'⟩
              go_simp
              exact HK.out 48 _ _ rfl (hJ.call hOK (show (12 : Nat) ≠ 20 by decide) t' C' ⟨_, rfl⟩)
            · have s0 : b.tmps.getD 0 undef = .pointer (some ⟨cb, 0, none⟩) := hS.o 0 (by decide)
              go_simp
              exact HK.out 49 _ _ rfl (hJ.pure (show (13 : Nat) ≠ 20 by decide) rfl)
            · go_simp
              have X' := Blk.new w' 3 (([0, 0, 1, 2] : List Int).map iv).toArray
              exact HK.out 50 _ _ rfl (hJ.al hOK (show (14 : Nat) ≠ 20 by decide) _ (fun _ => ⟨w'.heap.size, rfl, Nat.ne_of_gt hJ.w.cr.lt, lit_cells X'⟩))
            · have s49 : b.tmps.getD 49 undef = .pointer (some ⟨cb, 0, none⟩) := (hS.i 49 (by decide)).trans (hJ.v 13 (hwt ⟨13, .data⟩ (by simp) rfl))
              obtain ⟨g', hgs, hg1, hg2⟩ : ∃ g, f 50 = .slice (some ⟨g, 0, none⟩) 4 4 ∧ g ≠ cb ∧ ∀ (j : Nat) (y : Int), ([0, 0, 1, 2] : List Int)[j]? = some y → w'.cell? ⟨g, j, none⟩ = some (.int .i64 y) := hJ.v 14 (hwt ⟨14, .data⟩ (by simp) rfl) hLi
              have s50 : b.tmps.getD 50 undef = .slice (some ⟨g', 0, none⟩) 4 4 := (hS.i 50 (by decide)).trans hgs
              have HG := Lib.hid hg2
              clear hg2 hgs
              go_simp
              refine (l1PickInt_any w' hJ.w.cr (g := g') (xs := [0, 0, 1, 2]) (n := 4) rfl (by omega) (by omega) HG.out hg1).mono ?_
              rintro e w'' ⟨q, hq, rfl, C', t'⟩
              clear hq
              go_simp
              exact HK.out 51 _ _ rfl (hJ.call hOK (show (15 : Nat) ≠ 20 by decide) t' C' ⟨_, rfl⟩)
            · obtain ⟨z2, h2⟩ : ∃ z, f 38 = .int .i64 z := hJ.v 2 (hwt ⟨2, .data⟩ (by simp) rfl)
              have s38 : b.tmps.getD 38 undef = .int .i64 z2 := (hS.i 38 (by decide)).trans h2
              clear h2
              rw [Array.getD_eq_getD_getElem?] at s38
              obtain ⟨z7, h7⟩ : ∃ z, f 43 = .int .i64 z := hJ.v 7 (hwt ⟨7, .data⟩ (by simp) rfl)
              have s43 : b.tmps.getD 43 undef = .int .i64 z7 := (hS.i 43 (by decide)).trans h7
              clear h7
              rw [Array.getD_eq_getD_getElem?] at s43
              obtain ⟨z12, h12⟩ : ∃ z, f 48 = .int .i64 z := hJ.v 12 (hwt ⟨12, .data⟩ (by simp) rfl)
              have s48 : b.tmps.getD 48 undef = .int .i64 z12 := (hS.i 48 (by decide)).trans h12
              clear h12
              rw [Array.getD_eq_getD_getElem?] at s48
              obtain ⟨z15, h15⟩ : ∃ z, f 51 = .int .i64 z := hJ.v 15 (hwt ⟨15, .data⟩ (by simp) rfl)
              have s51 : b.tmps.getD 51 undef = .int .i64 z15 := (hS.i 51 (by decide)).trans h15
              clear h15
              rw [Array.getD_eq_getD_getElem?] at s51
              go_simp
              exact HK.out 52 _ _ rfl (hJ.pure (show (16 : Nat) ≠ 20 by decide) ⟨⟨z2, z7, z12, z15⟩, rfl⟩)
            · obtain ⟨x', hx'⟩ : ∃ e : E, f 52 = .agg #[.int .i64 e.id, .int .i64 e.fr, .int .i64 e.to, .int .i64 e.lb] := hJ.v 16 (hwt ⟨16, .data⟩ (by simp) rfl)
              have s52 : b.tmps.getD 52 undef = .agg #[.int .i64 x'.id, .int .i64 x'.fr, .int .i64 x'.to, .int .i64 x'.lb] := (hS.i 52 (by decide)).trans hx'
              clear hx'
              rw [Array.getD_eq_getD_getElem?] at s52
              go_simp
              have X' := Blk.new w' 29 (ecs [x']).toArray
              exact HK.out 53 _ _ rfl (hJ.al hOK (show (17 : Nat) ≠ 20 by decide) _ (fun _ => ⟨w'.heap.size, x', rfl, Nat.ne_of_gt hJ.w.cr.lt, by simp, fun j u hu => (X'.cell j).trans (by rw [List.getElem?_toArray]; exact hu)⟩))
            · have L17 : L 17 = true := hwt ⟨17, .data⟩ (by simp) rfl
              have L16 : L 16 = true := hcl 17 _ rfl L17 ⟨16, .data⟩ (by simp) rfl
              have L15 : L 15 = true := hcl 16 _ rfl L16 ⟨15, .data⟩ (by simp) rfl
              have s37 : b.tmps.getD 37 undef = .slice E1 es.length f1 := (hS.i 37 (by decide)).trans (hJ.v 1 (hwt ⟨1, .data⟩ (by simp) rfl))
              obtain ⟨g', x', hgs, hg0, hg1, hg2⟩ : ∃ (g : Nat) (e : E), f 53 = .slice (some ⟨g, 0, none⟩) 1 1 ∧ g ≠ cb ∧ g < w'.heap.size ∧ ∀ (j : Nat) (u : Value), (ecs [e])[j]? = some u → w'.cell? ⟨g, j, none⟩ = some u := hJ.v 17 L17 hLi
              have s53 : b.tmps.getD 53 undef = .slice (some ⟨g', 0, none⟩) 1 1 := (hS.i 53 (by decide)).trans hgs
              have rd : Reads w' w'.heap.size 4 (some ⟨g', 0, none⟩) 1 (ecs [x']) := row_reads rfl hg1 hg2
              have o0 := hJ.w.o0 hLi
              have q3 : Small (es.length + 1) := small_of (by omega)
              have hle : w.heap.size ≤ w'.heap.size := hJ.w.tt.size
              refine ap_step _ app_edge (by decide) w.heap.size (.tmp 37) (.tmp 53) rfl rfl _ _ _ s37 o0 _ _ 1 1 _ s53 rd (ecs_one _) q3 hle ?_
              intro v7 w7 hown7 hg7 hat7
              have hown8 : w7.ownsRow w.heap.size 29 4 v7 (es.length + 1) (ecs (es ++ [x'])) := by rw [ecs_append]; exact hown7
              obtain ⟨B7, d7, rfl, _⟩ := own_form hown8
              exact HK.out 54 _ _ rfl (hJ.app hOK hLi (fun hs => hcl 20 _ rfl hs ⟨18, .data⟩ (by simp) rfl) (fun j xs t hj _ => by rw [lit_of (t := 15) rfl hj]; exact L15) (fun j t hj => one_of (t := 18) rfl hj) (fun j hj => app_of (k := 18) rfl hj) rfl hg7 hown8)
            · have s3 : b.tmps.getD 3 undef = .pointer (some ⟨w.heap.size + 1, 0, none⟩) := hS.o 3 (by decide)
              go_simp
              exact HK.out 55 _ _ rfl (hJ.pure (show (19 : Nat) ≠ 20 by decide) rfl)
            · have L18 : L 18 = true := hwt ⟨18, .data⟩ (by simp) rfl
              have s55 : b.tmps.getD 55 undef = .pointer (some ⟨w.heap.size + 1, 1, none⟩) := (hS.i 55 (by decide)).trans (hJ.v 19 (hwt ⟨19, .data⟩ (by simp) rfl))
              obtain ⟨B7, d7, x7, hgs, hown7⟩ : ∃ B d e, f 54 = .slice B (es.length + 1) d ∧ w'.ownsRow w.heap.size 29 4 (.slice B (es.length + 1) d) (es.length + 1) (ecs (es ++ [e])) := hJ.v 18 L18
              have s54 : b.tmps.getD 54 undef = .slice B7 (es.length + 1) d7 := (hS.i 54 (by decide)).trans hgs
              have X0 := hJ.w.g0 hLi
              have k1 : w'.cell? ⟨w.heap.size + 1, 1, none⟩ = some (.slice E1 es.length f1) := by rw [X0.cell]; rfl
              have kf : w'.frozen? ⟨w.heap.size + 1, 1, none⟩ = false := X0.frozen 1
              have L17 : L 17 = true := hcl 18 _ rfl L18 ⟨17, .data⟩ (by simp) rfl
              have L16 : L 16 = true := hcl 17 _ rfl L17 ⟨16, .data⟩ (by simp) rfl
              have L15 : L 15 = true := hcl 16 _ rfl L16 ⟨15, .data⟩ (by simp) rfl
              clear hgs
              go_simp
              exact HN.out _ rfl (hJ.sto hOK hLi L18 (fun j xs t hj _ => by rw [lit_of (t := 15) rfl hj]; exact L15) (fun j t hj => one_of (t := 18) rfl hj) rfl hown7)
          case hend =>
            intro L f w' hall hJ
            obtain ⟨B7, d7, e7, X7, own7⟩ := hJ.w.g1 (hall 20 (by decide))
            have x7 := hJ.w.xr
            have v7 := hJ.w.vr
            have c7 := hJ.w.cr
            have t7 := hJ.w.tt
            clear hJ hall XG XR hown vr hws T C5 hOK
            simp only [chs, Act.put, List.setIfInBounds_toArray, List.set_cons_zero, List.set_cons_succ]
            go_wp2
            go_roundw
            case rel => exact ⟨r, _, _, es ++ [e7], rfl, by go_num, by simp; omega, X7, x7, v7, by rw [List.length_append]; exact own7, c7, t7⟩
            case measure => simp [intOf] <;> omega
    · obtain ⟨r, rfl⟩ : ∃ r, p = r + 1 := ⟨p - 1, by omega⟩
      obtain ⟨B1, d1, rfl, _⟩ := own_form hown
      have hpos : (0 : Int) < ((r + 1 : Nat) : Int) := by omega
      have hwr : IntKind.i64.wrap (((r + 1 : Nat) : Int) - 1) = (r : Int) := by rw [IntKind.wrap_i64]; omega
      have q3 : Small (vs.length + 1) := small_of (by omega)
      go_wp2_with fail
      have CD : Cur wr.drew cb := CR.below ((Below.refl _ _).drew)
      have oD := own_drew hown
      have XD : Blk wr.drew (w.heap.size + 1) 27 #[.slice B1 vs.length d1, .slice none 0 0] := XG.drew
      have YD : Blk wr.drew w.heap.size 27 #[.slice none 0 0, .slice none 0 0] := XR.drew
      have TD := T.drew
      have hszD : w2.heap.size ≤ wr.drew.heap.size := hsz
      have hcb2 : cb < w2.heap.size := by omega
      have hwz : w.heap.size ≤ w2.heap.size := by omega
      have hxg : w.heap.size + 1 < w2.heap.size := by omega
      clear CR hown XG XR T
      go_region_law (first
        | (refine ap_step _ app_int (by decide) w2.heap.size (.tmp 16) (.tmp 19) rfl rfl _ _ _ rfl oa _ _ 1 1 _ rfl hr (iv_one [q]) q3 hle ?_; intro v7 w7 hown7 hg7 hat7; clear hat7; have t7 := Ta.grown2 hg7 (fun g hg => .inr (Nat.le_trans hwz (ownBlock_some oa hg).1)); have X7 := Xa.grown hg7 (fun hq => by have := (ownBlock_some oa hq.symm).1; omega); have Y7 := Ya.grown hg7 (fun hq => by have := (ownBlock_some oa hq.symm).1; omega); have C7 := Ca.grown oa hcb2 hg7; have s7 := hg7.size; have x7 : w7.cell? ⟨w.heap.size + 1, 0, none⟩ = some (.slice B1 vs.length d1) := (by rw [X7.cell]; rfl); have x7f := X7.frozen 0; replace hown7 := own_snoc_i q rfl hown7; obtain ⟨B7, d7, rfl, _⟩ := own_form hown7)
        | (go_simp; go_at_call 75; refine (l1Below_any _ CD 3 (by omega) (by omega)).mono ?_; rintro e w3 ⟨q, rfl, hq0, hq1, C3, t3⟩; have o3 := own_tch oD t3 hcb2; have X3 := XD.tch t3 (by omega); have Y3 := YD.tch t3 (by omega); have T3 := TD.trans t3; have x3 : w3.cell? ⟨w.heap.size + 1, 0, none⟩ = some (.slice B1 vs.length d1) := (by rw [X3.cell]; rfl); have xA := cell_al (.cells #[.int .i64 q] 3) (w := w3) x3; have oa := o3.alloc (.cells #[.int .i64 q] 3); have Xa := X3.alloc (.cells #[.int .i64 q] 3); have Ya := Y3.alloc (.cells #[.int .i64 q] 3); have Ta := T3.alloc (.cells #[.int .i64 q] 3); have bal : Below w3.heap.size w3 (w3.alloc (.cells #[.int .i64 q] 3)) := (Below.refl _ _).alloc (Nat.le_refl _) _; have Ca := C3.below bal; have hr := reads_new (w := w3) (e := 3) (size := 1) (m := 1) #[.int .i64 q] rfl; have s3 := t3.size; have hle : w2.heap.size ≤ (w3.alloc (.cells #[.int .i64 q] 3)).heap.size := (Nat.le_trans (Nat.le_trans hszD s3) bal.size); (try dsimp only)))
      all_goals
        have X8 := X7.set_ 0 (.slice B7 (vs.length + 1) d7)
        have Y8 := Y7.far_ (Nat.ne_of_lt (Nat.lt_succ_self w.heap.size)) 0 (.slice B7 (vs.length + 1) d7)
        have t8 := t7.past (Nat.le_succ w.heap.size) 0 (.slice B7 (vs.length + 1) d7)
        have C8 := C7.tch ((Tch.refl (w.heap.size + 1) (w.heap.size + 2) w7).setCell (p := ⟨w.heap.size + 1, 0, none⟩) (Nat.le_refl _) (Nat.lt_succ_self _) (.slice B7 (vs.length + 1) d7)) (by omega)
        have ho8 := ownsRow_setCell_below hown7 (a := ⟨w.heap.size + 1, 0, none⟩) hxg (.slice B7 (vs.length + 1) d7)
        have hs8 : w2.heap.size ≤ (w7.setCell ⟨w.heap.size + 1, 0, none⟩ (.slice B7 (vs.length + 1) d7)).heap.size := by rw [World.size_setCell]; exact Nat.le_trans hle s7
        clear X7 Y7 t7 C7 hown7 hg7 oa Xa Ya Ta Ca hr hle x7 x7f
        go_wp2
        go_roundw
        case rel => exact ⟨r, _, vs ++ [q], by go_num, by simp; omega, X8, Y8, by rw [List.length_append]; exact ho8, C8, t8, hs8⟩
        case measure => simp [intOf] <;> omega
end Go.Proofs.YtljggmgijadjaaaGreatDoor
