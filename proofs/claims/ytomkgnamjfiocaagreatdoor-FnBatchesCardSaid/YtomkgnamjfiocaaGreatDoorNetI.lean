/- NetBatch of the program. -/
import Derived.Test.YtomkgnamjfiocaaGreatDoorNet
namespace Go.Proofs.YtomkgnamjfiocaaGreatDoor
open Go.RowKit Go.ChangeShapes Go.WideShapes Go.ChangeAt Go.Deep
set_option linter.unusedVariables false
set_option maxRecDepth 4000 in
set_option maxHeartbeats 4000000 in
theorem implNetBatch_is (w : World) {A : Option Addr} {n c : Nat} {l : List Cg} (h : CRd w A n l) :
    Calls Tryz.prog 30 #[.agg #[.slice A n c]] w fun e w' => ∃ A2 n2 c2, e = .returned (.agg #[.slice A2 n2 c2]) ∧ RIs w' w.heap.size w'.heap.size 92 5 A2 n2 c2 (cgcs (netB l)) ∧ Below w.heap.size w w' := by
  have hn := h.bd
  have HL := Lib.hid h.ln
  have hB0 : Below w.heap.size w ((w.alloc (.cells #[.slice A n c] 47)).alloc (.cells #[.slice none 0 0] 47)) := ((Below.refl _ _).alloc (Nat.le_refl _) _).alloc (by simp) _
  have XR := Blk.new (w.alloc (.cells #[.slice A n c] 47)) 47 #[.slice none 0 0]
  simp only [World.size_alloc] at XR
  have hB1 := hB0.alloc (o := .cells #[] 92) (by simp; omega)
  have hs0 : ((w.alloc (.cells #[.slice A n c] 47)).alloc (.cells #[.slice none 0 0] 47)).heap.size = w.heap.size + 1 + 1 := by simp
  have HS0 := Lib.hid hs0
  clear hs0
  go_enter Tryz.func30, Tryz.ntmps30
  go_wp2
  generalize ((w.alloc (.cells #[.slice A n c] 47)).alloc (.cells #[.slice none 0 0] 47)) = w0 at *
  have ho0 := own_made (w := w0) (base := w0.heap.size) 92 5 (Nat.le_refl _)
  have hr0 := XR.lt
  obtain ⟨z0, hz0e⟩ := Kept.fst (w := w0) ((Below.refl _ _).alloc (o := .cells #[] 92) (Nat.le_refl _))
  rw [hz0e] at ho0 ⊢
  clear hB1 hz0e
  go_loopw [3, 16] (fun v i wr => ∃ (q : Nat) (z : Kept w0), wr = z.W ∧ q ≤ n ∧ i = .int .i64 q ∧ z.W.ownsRow w0.heap.size 92 5 v (netL l q).length (cgcs (netL l q))) (fun _ i _ => n - (intOf i).toNat)
  case atStart => exact ⟨0, z0, rfl, Nat.zero_le _, rfl, by rw [← HS0.out]; exact ho0⟩
  clear ho0 z0
  case round =>
    obtain ⟨q, z, rfl, hq, rfl, hown⟩ := hrel
    have hbz := below_then hB0 z.be
    have hlen := netL_len l q
    by_cases hlt : q < n
    · obtain ⟨b, o, rfl, had, ch, hch, c0, c1, c2, c3, c4⟩ := change_at h.rd HL.out hlt
      have y0 := Kept.cell (cell_keep hB0 c0)
      have y1 := Kept.cell (cell_keep hB0 c1)
      have y2 := Kept.cell (cell_keep hB0 c2)
      have y3 := Kept.cell (cell_keep hB0 c3)
      have y4 := Kept.cell (cell_keep hB0 c4)
      have HS := Lib.hid (netL_succ hch)
      obtain ⟨L, hL⟩ : ∃ L, netL l q = L := ⟨_, rfl⟩
      rw [hL] at hown HS hlen
      obtain ⟨ci, ⟨e0, e1, e2, e3⟩⟩ := ch
      dsimp only at y0 y1 y2 y3 y4
      obtain ⟨B1, d1, rfl, _⟩ := own_form hown
      have hlt' : (q : Int) < n := by omega
      have hk0 : (0 : Int) ≤ (q : Int) := by omega
      have hwl : IntKind.i64.wrap ((L.length : Int) - 1) = (L.length : Int) - 1 := by rw [IntKind.wrap_i64]; omega
      have bC : Below z.W.heap.size z.W (z.W.alloc (.cells #[.bool ci, .int .i64 e0, .int .i64 e1, .int .i64 e2, .int .i64 e3] 92)) := (Below.refl _ _).alloc (Nat.le_refl _) _
      have XK := Blk.new z.W 92 #[.bool ci, .int .i64 e0, .int .i64 e1, .int .i64 e2, .int .i64 e3]
      have O1 := own_below hown bC (Nat.le_refl _)
      obtain ⟨z1, hz1e⟩ := z.of bC
      rw [hz1e] at XK O1
      have x0 := XK.kc (v := .bool ci) 0 rfl
      have x1 := XK.kc (v := .int .i64 e0) 1 rfl
      have x2 := XK.kc (v := .int .i64 e1) 2 rfl
      have x3 := XK.kc (v := .int .i64 e2) 3 rfl
      have x4 := XK.kc (v := .int .i64 e3) 4 rfl
      have kz : ∀ k : Kept z1.W, ∃ y : Kept w0, k.W = y.W := fun k => z1.of k.be
      have CR := (RIs.of O1 (by omega)).crd
      have HNA := Lib.hid (fun k => netAt_lt L ⟨ci, ⟨e0, e1, e2, e3⟩⟩ k)
      clear hch c0 c1 c2 c3 c4 hown bC XK
      go_wp2
      go_loopw [6] (fun i wr => ∃ (p : Nat) (z2 : Kept z1.W), wr = z2.W ∧ p ≤ L.length ∧ i = .int .i64 ((p : Int) - 1) ∧ netAt L ⟨ci, ⟨e0, e1, e2, e3⟩⟩ p = netAt L ⟨ci, ⟨e0, e1, e2, e3⟩⟩ L.length) (fun i _ => (intOf i + 1).toNat)
      case atStart => exact ⟨L.length, ⟨z1.W, Below.refl _ _⟩, rfl, Nat.le_refl _, rfl, rfl⟩
      case round =>
        obtain ⟨p, z2, rfl, hp, hi, hat⟩ := hrel
        have HAT := Lib.hid hat
        clear hat
        rcases Nat.eq_zero_or_pos p with rfl | hp1
        · have hii : (((0 : Nat) : Int) - 1) = -1 := by omega
          rw [hii] at hi
          subst hi
          have hge : decide ((0 : Int) ≤ -1) = false := by decide
          have HSN := Lib.hid (netStep_no (L := L) (c := ⟨ci, ⟨e0, e1, e2, e3⟩⟩) (by rw [← HAT.out]; rfl))
          go_wp2_with fail
          refine wp_region_k2 (by kernel_rfl) (by kernel_rfl) ?_
          repeat (go_big_quiet_step (fail))
          refine wpQuiet_nil ?_
          intro _ hw'
          obtain ⟨z3, rfl⟩ := hw'
          have O3 := own_below O1 z3.be (Nat.le_refl _)
          have q3 : Small (L.length + 1) := small_of (by omega)
          have h15 := cgcs_one [⟨ci, ⟨e0, e1, e2, e3⟩⟩]
          have hb4 : Below w0.heap.size w0 z3.W := by obtain ⟨z4, hz4e⟩ := z1.of z3.be; rw [hz4e]; exact z4.be
          have hs4 : w0.heap.size ≤ z3.W.heap.size := hb4.size
          go_wp2_with (at_builtin; refine ap_plain _ app_change (by decide) w0.heap.size (.tmp 43) (.tmp 45) rfl rfl _ _ _ rfl (O3.alloc _) _ _ 1 1 _ rfl (reads_new _ rfl) h15 q3 (by simp; omega) ?_; intro v7 w7 hown7 hg7 hat7; have hB7 := below_grown_own (hb4.alloc hs4 _) (O3.alloc _) hg7 (Nat.le_refl _) (by simp; omega); replace hown7 := own_snoc_n ⟨ci, ⟨e0, e1, e2, e3⟩⟩ rfl hown7; clear hg7 hat7)
          go_roundw
          case rel => exact ⟨q + 1, ⟨_, hB7⟩, rfl, by omega, by go_num, by rw [HS.out, HSN.out]; simpa using hown7⟩
          case measure => simp [intOf]; omega
        · obtain ⟨r, rfl⟩ : ∃ r, p = r + 1 := ⟨p - 1, by omega⟩
          have hii : ((r + 1 : Nat) : Int) - 1 = (r : Int) := by omega
          rw [hii] at hi
          subst hi
          obtain ⟨b2, o2, rfl, had2, yc, hyc, d0, d1', d2, d3, d4⟩ := change_at CR.rd rfl (show r < L.length by omega)
          have u0 := Kept.cell d0
          have u1 := Kept.cell d1'
          have u2 := Kept.cell d2
          have u3 := Kept.cell d3
          have u4 := Kept.cell d4
          have HHIT := Lib.hid (netAt_hit (c := ⟨ci, ⟨e0, e1, e2, e3⟩⟩) hyc)
          have HMISS := Lib.hid (netAt_miss (c := ⟨ci, ⟨e0, e1, e2, e3⟩⟩) hyc)
          have hNE := neqC_run yc ⟨!ci, ⟨e0, e1, e2, e3⟩⟩
          obtain ⟨t, ht⟩ : ∃ t, decide (yc = (⟨!ci, ⟨e0, e1, e2, e3⟩⟩ : Cg)) = t := ⟨_, rfl⟩
          have HT := Lib.hid ht
          rw [ht] at hNE
          obtain ⟨yi, ⟨f0, f1, f2, f3⟩⟩ := yc
          dsimp only at u0 u1 u2 u3 u4 hNE
          have hrl : (r : Int) < L.length := by omega
          have hr0' : (0 : Int) ≤ (r : Int) := by omega
          have hge : decide ((0 : Int) ≤ (r : Int)) = true := by simp
          have hwr : IntKind.i64.wrap ((r : Int) - 1) = (r : Int) - 1 := by rw [IntKind.wrap_i64]; omega
          have hcall : ∀ x : Kept z1.W, Calls Tryz.prog 72 #[.agg #[.bool ci, .int .i64 e0, .int .i64 e1, .int .i64 e2, .int .i64 e3]] x.W fun e w' => e = .returned (.agg #[.bool (!ci), .int .i64 e0, .int .i64 e1, .int .i64 e2, .int .i64 e3]) ∧ Below x.W.heap.size x.W w' := fun x => inverse_any _ _ _ _ _ _
          have HC := Lib.hid hcall
          clear hcall hyc ht d0 d1' d2 d3 d4
          go_wp2_with fail
          refine wp_region_k2 (by kernel_rfl) (by kernel_rfl) ?_
          repeat (go_big_quiet_step ((go_at_call 72; exact Calls.kept (HC.out _))))
          refine wpQuiet_nil ?_
          intro _ hw'
          obtain ⟨z3, rfl⟩ := hw'
          cases t
          · go_wp2
            go_roundw
            case rel => exact ⟨r, z3, rfl, by omega, rfl, by rw [← HAT.out]; exact (HMISS.out (of_decide_eq_false HT.out)).symm⟩
            case measure => simp [intOf] <;> omega
          · have hst := netStep_yes (L := L) (c := ⟨ci, ⟨e0, e1, e2, e3⟩⟩) (k := r) (by rw [← HAT.out]; exact HHIT.out (of_decide_eq_true HT.out))
            have HST := Lib.hid hst
            have O3 := own_below O1 z3.be (Nat.le_refl _)
            have hb4 : Below w0.heap.size w0 z3.W := by obtain ⟨z4, hz4e⟩ := z1.of z3.be; rw [hz4e]; exact z4.be
            have R3 := RIs.of O3 (by omega)
            obtain ⟨g, hge, hg1, hg2⟩ := R3.at_ (by omega)
            injection hge with hge
            injection hge with hge1 hge2
            subst hge1
            subst hge2
            obtain ⟨s, hs⟩ : ∃ s, L.length = r + s + 1 := ⟨L.length - r - 1, by omega⟩
            have hdel := deleteC_any z3.W (k := r) (r := s) (cap := d1) (by rw [← hs]; exact R3) (cgcs_one L)
            rw [← hs] at hdel
            have HDEL := Lib.hid hdel
            have HSL := Lib.hid hs
            have hw1 : IntKind.i64.wrap ((r : Int) + 1) = (r : Int) + 1 := by rw [IntKind.wrap_i64]; omega
            clear hdel hs
            go_wp2_with fail
            refine HDEL.out.mono ?_
            rintro e w7 ⟨rfl, R7, t7⟩
            have hB7 := below_tch hb4 t7 hg1
            have hs := HSL.out
            have hll : (L.take r ++ L.drop (r + 1)).length = r + s := by rw [List.length_append, List.length_take, List.length_drop]; omega
            have HLL := Lib.hid hll
            clear hs hll
            go_wp2
            go_roundw
            case rel => exact ⟨q + 1, ⟨_, hB7⟩, rfl, by omega, by go_num, by rw [HS.out, HST.out, HLL.out, cgcs_append, ← cgcs_take, ← cgcs_drop]; exact R7.own.row⟩
            case measure => simp [intOf]; omega
    · obtain rfl : q = n := by omega
      obtain ⟨L, hL⟩ : ∃ L, netL l q = L := ⟨_, rfl⟩
      have HB := Lib.hid (show netB l = netO L 2 by rw [← hL]; unfold netB; rw [HL.out])
      rw [hL] at hown hlen
      obtain ⟨B1, d1, rfl, _⟩ := own_form hown
      have R := (RIs.of hown (by omega)).crd
      have bX : Below z.W.heap.size z.W ((z.W.alloc (.cells #[.slice none 0 0] 47)).alloc (.cells #[.bool false, .bool true] 4)) := ((Below.refl _ _).alloc (Nat.le_refl _) _).alloc (by simp) _
      have XO := (Blk.new z.W 47 #[.slice none 0 0]).alloc (.cells #[.bool false, .bool true] 4)
      have YB := Blk.new (z.W.alloc (.cells #[.slice none 0 0] 47)) 4 #[.bool false, .bool true]
      simp only [World.size_alloc] at YB
      have XRz := (XR.below z.be XR.lt)
      replace XRz := XRz.below bX XRz.lt
      have hzs := z.be.size
      have hsc : ((z.W.alloc (.cells #[.slice none 0 0] 47)).alloc (.cells #[.bool false, .bool true] 4)).heap.size = z.W.heap.size + 1 + 1 := by simp
      have HSC := Lib.hid hsc
      have HT2 := Lib.hid (netO_two L)
      have HP2 := Lib.hid (netO_len L)
      clear hL hsc hown
      go_wp2
      generalize ((z.W.alloc (.cells #[.slice none 0 0] 47)).alloc (.cells #[.bool false, .bool true] 4)) = wc at *
      have hzx : z.W.heap.size < wc.heap.size := by have := HSC.out; omega
      have r0 := XRz.bc (xb := z.W.heap.size) (by omega) (v := .slice none 0 0) 0 rfl
      have f0 := XRz.bf (xb := z.W.heap.size) (by omega) 0
      have kb0 := YB.bc (xb := z.W.heap.size) (by omega) (v := .bool false) 0 rfl
      have kb1 := YB.bc (xb := z.W.heap.size) (by omega) (v := .bool true) 1 rfl
      have HK0 := Lib.hid kb0
      have HK1 := Lib.hid kb1
      clear kb0 kb1 YB XRz
      go_loopw [51] (fun i wr => ∃ (j : Nat) (v : Value) (z2 : KeptB wc z.W.heap.size), wr = z2.W ∧ j ≤ 2 ∧ i = .int .i64 j ∧ Blk z2.W z.W.heap.size 47 #[v] ∧ z2.W.ownsRow wc.heap.size 92 5 v (netO L j).length (cgcs (netO L j))) (fun i _ => 2 - (intOf i).toNat)
      case atStart => exact ⟨0, _, ⟨wc, Tch.refl _ _ _⟩, rfl, by omega, rfl, XO, World.ownsRow_nil _ _ _ _⟩
      clear XO
      case round =>
        obtain ⟨j, v, z2, rfl, hj, rfl, X2, own2⟩ := hrel
        by_cases hj2 : j < 2
        · have kb : ∀ x : KeptB wc z.W.heap.size, x.W.cell? ⟨z.W.heap.size + 1, j, none⟩ = some (.bool (decide (j = 1))) := fun x => by
            rcases (show j = 0 ∨ j = 1 by omega) with rfl | rfl
            · exact HK0.out x
            · exact HK1.out x
          have hos : netO L (j + 1) = netO L j ++ netF (decide (j = 1)) L L.length := rfl
          have hpl : (netO L j).length ≤ L.length := Nat.le_trans (HP2.out j) (by rcases (show j = 0 ∨ j = 1 by omega) with rfl | rfl <;> simp)
          obtain ⟨t, ht⟩ : ∃ t, decide (j = 1) = t := ⟨_, rfl⟩
          obtain ⟨P, hP⟩ : ∃ P, netO L j = P := ⟨_, rfl⟩
          rw [ht] at kb hos
          rw [hP] at hos own2 hpl
          have HOS := Lib.hid hos
          have hj2' : (j : Int) < 2 := by omega
          have hj0 : (0 : Int) ≤ (j : Int) := by omega
          clear ht hP hos
          go_wp2
          go_loopw [57] (fun i wr => ∃ (k : Nat) (v : Value) (z3 : KeptB wc z.W.heap.size), wr = z3.W ∧ k ≤ L.length ∧ i = .int .i64 k ∧ Blk z3.W z.W.heap.size 47 #[v] ∧ z3.W.ownsRow wc.heap.size 92 5 v (P ++ netF t L k).length (cgcs (P ++ netF t L k))) (fun i _ => L.length - (intOf i).toNat)
          case atStart => exact ⟨0, _, z2, rfl, Nat.zero_le _, rfl, X2, by simpa [netF] using own2⟩
          clear X2 own2 z2
          case round =>
            obtain ⟨k, v, z3, rfl, hk, rfl, X3, own3⟩ := hrel
            by_cases hkl : k < L.length
            · obtain ⟨b, o, rfl, had, y, hy, c0, c1, c2, c3, c4⟩ := change_at R.rd rfl hkl
              have y0 := KeptB.cell (xb := z.W.heap.size) (cell_keep bX c0) (by dsimp only; omega)
              have y1 := KeptB.cell (xb := z.W.heap.size) (cell_keep bX c1) (by dsimp only; omega)
              have y2 := KeptB.cell (xb := z.W.heap.size) (cell_keep bX c2) (by dsimp only; omega)
              have y3 := KeptB.cell (xb := z.W.heap.size) (cell_keep bX c3) (by dsimp only; omega)
              have y4 := KeptB.cell (xb := z.W.heap.size) (cell_keep bX c4) (by dsimp only; omega)
              have HF := Lib.hid (netF_succ t hy)
              have hfl := netF_len t L k
              obtain ⟨yi, ⟨e0, e1, e2, e3⟩⟩ := y
              dsimp only at y0 y1 y2 y3 y4
              have q30 : (P ++ netF t L k).length + 1 ≤ 16777216 := by rw [List.length_append]; omega
              obtain ⟨Q, hQ⟩ : ∃ Q, P ++ netF t L k = Q := ⟨_, rfl⟩
              rw [hQ] at own3 q30
              have q3 : Small (Q.length + 1) := small_of q30
              have HQ := Lib.hid hQ
              obtain ⟨B3, d3, rfl, _⟩ := own_form own3
              have hkl' : (k : Int) < L.length := by omega
              have hk0 : (0 : Int) ≤ (k : Int) := by omega
              have bC : Below z3.W.heap.size z3.W (z3.W.alloc (.cells #[.bool yi, .int .i64 e0, .int .i64 e1, .int .i64 e2, .int .i64 e3] 92)) := (Below.refl _ _).alloc (Nat.le_refl _) _
              have XK := Blk.new z3.W 92 #[.bool yi, .int .i64 e0, .int .i64 e1, .int .i64 e2, .int .i64 e3]
              have X4 := X3.below bC X3.lt
              have own4 := own_below own3 bC (Nat.le_refl _)
              obtain ⟨z4, hz4e⟩ := z3.of bC
              rw [hz4e] at XK X4 own4
              have x0 : z4.W.cell? ⟨z3.W.heap.size, 0, none⟩ = some (.bool yi) := by rw [XK.cell]; rfl
              have x1 : z4.W.cell? ⟨z3.W.heap.size, 1, none⟩ = some (.int .i64 e0) := by rw [XK.cell]; rfl
              have x2 : z4.W.cell? ⟨z3.W.heap.size, 2, none⟩ = some (.int .i64 e1) := by rw [XK.cell]; rfl
              have x3 : z4.W.cell? ⟨z3.W.heap.size, 3, none⟩ = some (.int .i64 e2) := by rw [XK.cell]; rfl
              have x4 : z4.W.cell? ⟨z3.W.heap.size, 4, none⟩ = some (.int .i64 e3) := by rw [XK.cell]; rfl
              have xo : z4.W.cell? ⟨z.W.heap.size, 0, none⟩ = some (.slice B3 Q.length d3) := by rw [X4.cell]; rfl
              have xof := X4.frozen 0
              have hzs4 := z4.be.size
              clear hy c0 c1 c2 c3 c4 hQ q30 XK X3 own3 bC
              by_cases hyt : yi = t
              · have hc1 : (yi == t) = true := by simp [hyt]
                have hc2 : decide (yi = t) = true := by simp [hyt]
                have HN := Lib.hid (show P ++ netF t L (k + 1) = Q ++ [⟨yi, ⟨e0, e1, e2, e3⟩⟩] by rw [HF.out, ← HQ.out]; simp [hyt])
                have h15 := cgcs_one [⟨yi, ⟨e0, e1, e2, e3⟩⟩]
                have own5 := own4.alloc (.cells #[.bool yi, .int .i64 e0, .int .i64 e1, .int .i64 e2, .int .i64 e3] 92)
                have X5 := X4.alloc (.cells #[.bool yi, .int .i64 e0, .int .i64 e1, .int .i64 e2, .int .i64 e3] 92)
                have t5 := z4.be.alloc (.cells #[.bool yi, .int .i64 e0, .int .i64 e1, .int .i64 e2, .int .i64 e3] 92)
                have hr5 := reads_new (w := z4.W) (e := 92) (size := 5) (m := 1) #[.bool yi, .int .i64 e0, .int .i64 e1, .int .i64 e2, .int .i64 e3] rfl
                have hle5 := t5.size
                clear hyt
                go_wp2_with (at_builtin; refine ap_plain _ app_change (by decide) wc.heap.size (.tmp 66) (.tmp 68) rfl rfl _ _ _ rfl own5 _ _ 1 1 _ rfl hr5 h15 q3 hle5 ?_; intro v7 w7 hown7 hg7 hat7; clear hat7; have X7 := X5.grown hg7 (fun hq => by have := (ownBlock_some own5 hq.symm).1; omega); have t7 := t5.grown own5 (Nat.le_refl _) hg7; have x7 : w7.cell? ⟨z.W.heap.size, 0, none⟩ = some (.slice B3 Q.length d3) := (by rw [X7.cell]; rfl); have x7f := X7.frozen 0; replace hown7 := own_snoc_n ⟨yi, ⟨e0, e1, e2, e3⟩⟩ rfl hown7; obtain ⟨B7, d7, rfl, _⟩ := own_form hown7; clear hg7 own5 X5 t5 hr5 hle5)
                go_roundw
                case rel => exact ⟨k + 1, _, ⟨_, t7.setCell (p := ⟨z.W.heap.size, 0, none⟩) (Nat.le_refl _) (Nat.lt_succ_self _) (.slice B7 (Q.length + 1) d7)⟩, rfl, by omega, by go_num, X7.set_ 0 _, by rw [HN.out, List.length_append]; exact ownsRow_setCell_below hown7 (a := ⟨z.W.heap.size, 0, none⟩) (by dsimp only; omega) _⟩
                case measure => simp [intOf]; omega
              · have hc1 : (yi == t) = false := by simp [hyt]
                have hc2 : decide (yi = t) = false := by simp [hyt]
                have HN := Lib.hid (show P ++ netF t L (k + 1) = Q by rw [HF.out, ← HQ.out]; simp [hyt])
                clear hyt
                go_wp2
                go_roundw
                case rel => exact ⟨k + 1, _, z4, rfl, by omega, by go_num, X4, by rw [HN.out]; exact own4⟩
                case measure => simp [intOf]; omega
            · obtain rfl : k = L.length := by omega
              have hkl' : ¬ (L.length : Int) < L.length := by omega
              go_wp2
              go_roundw
              case rel => exact ⟨j + 1, _, z3, rfl, by omega, by go_num, X3, by rw [HOS.out]; exact own3⟩
              case measure => simp [intOf]; omega
        · obtain rfl : j = 2 := by omega
          have h2l := HT2.out
          obtain ⟨M, hM⟩ : ∃ M, netO L 2 = M := ⟨_, rfl⟩
          rw [hM] at own2 h2l
          have HM := Lib.hid hM
          obtain ⟨B3, d3, rfl, _⟩ := own_form own2
          have xo : z2.W.cell? ⟨z.W.heap.size, 0, none⟩ = some (.slice B3 M.length d3) := by rw [X2.cell]; rfl
          have hbz2 : Below w.heap.size w z2.W := below_tch (below_then hbz bX) z2.be (by omega)
          have O2 := (RIs.of own2 (by omega)).setB (p := ⟨w.heap.size + 1, 0, none⟩) (by dsimp only; omega) (.slice B3 M.length d3)
          have hB6 := hbz2.setCell (p := ⟨w.heap.size + 1, 0, none⟩) (by dsimp only; omega) (.slice B3 M.length d3)
          clear hM h2l
          go_wp2
          refine bodyPost_ret (v := .agg #[.slice B3 M.length d3]) ?_ rfl ?_
          · simp [results, Tryz.results30, go_sem]
            go_simp
          · exact ⟨_, _, _, rfl, by rw [HB.out, HM.out]; exact O2.wide (by omega) (by simp), hB6⟩
end Go.Proofs.YtomkgnamjfiocaaGreatDoor
