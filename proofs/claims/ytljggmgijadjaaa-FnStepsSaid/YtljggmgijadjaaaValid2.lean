/- Contract of impl.IsValidGraph. -/
import Derived.Test.YtljggmgijadjaaaValid
namespace Go.Proofs.Ytljggmgijadjaaa
open Go.RowKit Go.ChangeShapes Go.WideShapes Go.ChangeAt Go.Deep
set_option linter.unusedVariables false
set_option maxRecDepth 4000 in
set_option maxHeartbeats 4000000 in
theorem implValid_any (A B : Option Addr) (n c m d : Nat) (g : G) (w : World) (hg : GReads w A n B m g) (hn : n ≤ 2000000) (hm : m ≤ 2000000) :
    Calls Try.prog 21 #[.agg #[.slice A n c, .slice B m d]] w fun e w' => e = .returned (.bool (validG g)) ∧ Below w.heap.size w w' := by
  obtain ⟨ln, lm, rv, re⟩ := hg
  go_enter Try.func21, Try.ntmps21
  go_wp2
  go_loop [14] (fun i => ∃ k : Nat, k ≤ n ∧ i = .int .i64 k ∧ (g.vs.take k).all (fun v => inB v 0 2) = true) (fun i => n - (intOf i).toNat)
  case atStart => exact ⟨0, Nat.zero_le _, rfl, rfl⟩
  case round =>
    obtain ⟨k, hk, rfl, htk⟩ := hrel
    have HT := Lib.hid htk
    clear htk
    by_cases hlt : k < n
    · obtain ⟨ad, u, rfl, had, hu, hc⟩ := rv.at_ hlt
      have hv := iv_get hu (by omega)
      obtain ⟨x, hx⟩ : ∃ x, g.vs[k]'(by omega) = x := ⟨_, rfl⟩
      have HX := Lib.hid hx
      rw [hx] at hv
      subst hv
      unfold iv at hc
      have hc' := cell_al (.cells #[.slice (some ad) n c, .slice B m d] 27) hc
      clear hu hx hc
      cases hin : inB x 0 2
      · have hE : validG g = false := by
          simp only [validG, Bool.and_eq_false_iff]
          left; left; left
          rw [List.all_eq_false]
          exact ⟨x, by rw [← HX.out]; exact List.getElem_mem _, by simp [hin]⟩
        have HE := Lib.hid hE
        clear hE
        go_wp2_with (go_at_call 29; refine (within_any _ _ _ _).mono ?_; rintro e w' ⟨rfl, rfl⟩)
        go_ret
        exact ⟨by rw [HE.out] <;> rfl, (Below.refl _ _).alloc (Nat.le_refl _) _⟩
      · go_wp2_with (go_at_call 29; refine (within_any _ _ _ _).mono ?_; rintro e w' ⟨rfl, rfl⟩)
        go_round
        case rel => exact ⟨k + 1, by omega, by go_num, by rw [List.take_succ_eq_append_getElem (by omega), List.all_append, HT.out, HX.out]; simp [hin]⟩
        case measure => simp [intOf]; omega
    · obtain rfl : k = n := by omega
      have hvs := HT.out
      rw [List.take_of_length_le (by omega)] at hvs
      have HV := Lib.hid hvs
      clear hvs HT
      go_wp2
      have kA0 : (w.alloc (.cells #[.slice A k c, .slice B m d] 27)).cell? ⟨w.heap.size, 0, none⟩ = some (.slice A k c) := by go_simp
      have kB0 : (w.alloc (.cells #[.slice A k c, .slice B m d] 27)).cell? ⟨w.heap.size, 1, none⟩ = some (.slice B m d) := by go_simp
      have hB0 : Below w.heap.size w (w.alloc (.cells #[.slice A k c, .slice B m d] 27)) := (Below.refl _ _).alloc (Nat.le_refl _) _
      have reE := reads_up re hB0
      have hsz0 : w.heap.size < (w.alloc (.cells #[.slice A k c, .slice B m d] 27)).heap.size := by simp
      clear re rv hk hlt
      generalize w.alloc (.cells #[.slice A k c, .slice B m d] 27) = W0 at *
      go_loopw [25] (fun i wr => ∃ q : Nat, q ≤ m ∧ i = .int .i64 q ∧ edgesB k g.es q = true ∧ Below W0.heap.size W0 wr) (fun i _ => m - (intOf i).toNat)
      case atStart => exact ⟨0, Nat.zero_le _, rfl, rfl, Below.refl _ _⟩
      case round =>
        obtain ⟨q, hq, rfl, heq, hbel⟩ := hrel
        have HQ := Lib.hid heq
        clear heq
        have kA1 := cell_keep hbel kA0
        have kB1 := cell_keep hbel kB0
        have reR := reads_up reE hbel
        by_cases hlt : q < m
        · obtain ⟨b, o, rfl, had, e, he, c0, c1, c2, c3⟩ := edge_at reR lm hlt
          have hlt' : (q : Int) < m := by omega
          have hq0 : (0 : Int) ≤ (q : Int) := by omega
          have hne : b ≠ wr.heap.size := by omega
          have HE := Lib.hid he
          clear he
          go_wp2_with fail
          have yA := cell_al (.cells #[.int .i64 e.id, .int .i64 e.fr, .int .i64 e.to, .int .i64 e.lb] 48) kA1
          have yB := cell_al (.cells #[.int .i64 e.id, .int .i64 e.fr, .int .i64 e.to, .int .i64 e.lb] 48) kB1
          have y0 : (wr.alloc (.cells #[.int .i64 e.id, .int .i64 e.fr, .int .i64 e.to, .int .i64 e.lb] 48)).cell? ⟨wr.heap.size, 0, none⟩ = some (.int .i64 e.id) := by go_simp
          have y1 : (wr.alloc (.cells #[.int .i64 e.id, .int .i64 e.fr, .int .i64 e.to, .int .i64 e.lb] 48)).cell? ⟨wr.heap.size, 1, none⟩ = some (.int .i64 e.fr) := by go_simp
          have y2 : (wr.alloc (.cells #[.int .i64 e.id, .int .i64 e.fr, .int .i64 e.to, .int .i64 e.lb] 48)).cell? ⟨wr.heap.size, 2, none⟩ = some (.int .i64 e.to) := by go_simp
          have y3 : (wr.alloc (.cells #[.int .i64 e.id, .int .i64 e.fr, .int .i64 e.to, .int .i64 e.lb] 48)).cell? ⟨wr.heap.size, 3, none⟩ = some (.int .i64 e.lb) := by go_simp
          have hB1 := below_then hB0 (hbel.alloc hbel.size (.cells #[.int .i64 e.id, .int .i64 e.fr, .int .i64 e.to, .int .i64 e.lb] 48))
          have hB2 := hbel.alloc hbel.size (.cells #[.int .i64 e.id, .int .i64 e.fr, .int .i64 e.to, .int .i64 e.lb] 48)
          have reW := reads_up reE hB2
          have hcall : ∀ W, Calls Try.prog 35 #[.agg #[.int .i64 e.id, .int .i64 e.fr, .int .i64 e.to, .int .i64 e.lb], .int .i64 k] W fun r w' => r = .returned (.bool (okE k e)) ∧ Below W.heap.size W w' := fun W => edgeOk_any e k W (by omega) (by omega)
          have HC1 := Lib.hid hcall
          clear hcall c0 c1 c2 c3
          generalize (wr.alloc (.cells #[.int .i64 e.id, .int .i64 e.fr, .int .i64 e.to, .int .i64 e.lb] 48)) = W1 at *
          have xA := Kept.cell yA
          have xB := Kept.cell yB
          have x0 := Kept.cell y0
          have x1 := Kept.cell y1
          have x2 := Kept.cell y2
          have x3 := Kept.cell y3
          cases hok : okE k e
          · have hE : edgesB k g.es (q + 1) = false := by rw [edgesB_succ, HE.out]; simp [hok]
            have hV : validG g = false := by
              simp only [validG, Bool.and_eq_false_iff]
              left; left; right
              rw [ln, lm]
              exact edgesB_false hE hlt
            have HV2 := Lib.hid hV
            have HC : Hid (∀ W, Calls Try.prog 35 #[.agg #[.int .i64 e.id, .int .i64 e.fr, .int .i64 e.to, .int .i64 e.lb], .int .i64 k] W fun r w' => r = .returned (.bool false) ∧ Below W.heap.size W w') := Lib.hid (by rw [← hok]; exact HC1.out)
            clear hE hV HC1
            refine wp_region_kept (by kernel_rfl) (by kernel_rfl) ?_
            repeat (go_big_quiet_step ((go_at_call 35; exact Calls.kept (HC.out _))))
            refine wpQuiet_nil ?_
            intro _ hw'
            obtain ⟨xw, rfl⟩ := hw'
            have hxb := xw.be
            go_wp2
            go_ret
            exact ⟨by rw [HV2.out] <;> rfl, below_then hB1 hxb⟩
          · have HC : Hid (∀ W, Calls Try.prog 35 #[.agg #[.int .i64 e.id, .int .i64 e.fr, .int .i64 e.to, .int .i64 e.lb], .int .i64 k] W fun r w' => r = .returned (.bool true) ∧ Below W.heap.size W w') := Lib.hid (by rw [← hok]; exact HC1.out)
            clear HC1
            rcases Nat.lt_or_ge 0 q with hp | hz
            rotate_left
            · have hd0 : decide (0 < q) = false := by simp; omega
              have HZ := Lib.hid (show q = 0 by omega)
              refine wp_region_kept (by kernel_rfl) (by kernel_rfl) ?_
              repeat (go_big_quiet_step ((go_at_call 35; exact Calls.kept (HC.out _))))
              refine wpQuiet_nil ?_
              intro _ hw'
              obtain ⟨xw, rfl⟩ := hw'
              have hxb := xw.be
              go_wp2
              go_roundw
              case rel => exact ⟨q + 1, by omega, by go_num, by rw [edgesB_succ, HE.out, HQ.out, HZ.out]; simp [hok, ordE], below_then hB2 hxb⟩
              case measure => simp [intOf]; omega
            · obtain ⟨b9, o9, hb9, _, e9, he9, p0, _, _, _⟩ := edge_at (k := q - 1) reW lm (by omega)
              have hbo : b = b9 ∧ o = o9 := by simpa using hb9
              obtain ⟨rfl, rfl⟩ := hbo
              clear hb9
              have hord : ordE g.es q = decide (e9.id < e.id) := by
                obtain ⟨p, rfl⟩ : ∃ p, q = p + 1 := ⟨q - 1, by omega⟩
                have h9 : g.es[p]? = some e9 := he9
                simp only [ordE, h9, HE.out]
              have HO := Lib.hid hord
              clear hord he9
              have xp := Kept.cell p0
              have s2 : (0 : Int) ≤ (q : Int) - 1 := by omega
              have s3 : (q : Int) - 1 < (m : Int) := by omega
              have s5 : decide (0 < q) = true := by simp; omega
              by_cases hge : e.id ≤ e9.id
              · have hE : edgesB k g.es (q + 1) = false := by rw [edgesB_succ, HE.out, HO.out]; simp [hge]
                have hV : validG g = false := by
                  simp only [validG, Bool.and_eq_false_iff]
                  left; left; right
                  rw [ln, lm]
                  exact edgesB_false hE hlt
                have HV2 := Lib.hid hV
                clear hE hV
                refine wp_region_kept (by kernel_rfl) (by kernel_rfl) ?_
                repeat (go_big_quiet_step ((go_at_call 35; exact Calls.kept (HC.out _))))
                refine wpQuiet_nil ?_
                intro _ hw'
                obtain ⟨xw, rfl⟩ := hw'
                have hxb := xw.be
                go_wp2
                go_ret
                exact ⟨by rw [HV2.out] <;> rfl, below_then hB1 hxb⟩
              · have hge2 : e9.id < e.id := by omega
                have HG : Hid (edgesB k g.es (q + 1) = true) := by
                  apply Lib.hid
                  rw [edgesB_succ, HE.out, HO.out, HQ.out]
                  simp [hge2, hok]
                refine wp_region_kept (by kernel_rfl) (by kernel_rfl) ?_
                repeat (go_big_quiet_step ((go_at_call 35; exact Calls.kept (HC.out _))))
                refine wpQuiet_nil ?_
                intro _ hw'
                obtain ⟨xw, rfl⟩ := hw'
                have hxb := xw.be
                go_wp2
                go_roundw
                case rel => exact ⟨q + 1, by omega, by go_num, HG.out, below_then hB2 hxb⟩
                case measure => simp [intOf]; omega
        · obtain rfl : q = m := by omega
          have hV : validG g = (inB k 1 5 && decide (q ≤ 12)) := by
            unfold validG
            rw [HV.out, ln, lm, HQ.out]
            simp
          have HV2 := Lib.hid hV
          clear hV
          cases hin : inB k 1 5
          all_goals
            go_wp2_with (go_at_call 29; refine (within_any _ _ _ _).mono ?_; rintro e w' ⟨rfl, rfl⟩)
            go_ret
            exact ⟨by rw [HV2.out, hin]; first | rfl | (simp; omega) | simp, below_then hB0 hbel⟩
end Go.Proofs.Ytljggmgijadjaaa
