/- NodesAfter of the reference: sets as bits. -/
import Derived.Test.YtolilkbejghocaaNod
namespace Go.Proofs.Ytolilkbejghocaa
open Go.RowKit Go.ChangeShapes Go.WideShapes Go.ChangeAt Go.Deep
set_option linter.unusedVariables false
theorem bit_form (m k : Nat) (hm : m < 9223372036854775808) : (bits .and .i64 ((m : Int) / 2 ^ k) 1 == (1 : Int)) = m.testBit k := by
  have e : (m : Int) / 2 ^ k = ((m / 2 ^ k : Nat) : Int) := by push_cast; rfl
  have hlt : m / 2 ^ k < 9223372036854775808 := Nat.lt_of_le_of_lt (Nat.div_le_self _ _) hm
  have h1 := i64_and_nat (m / 2 ^ k) 1 hlt (by omega)
  rw [e]
  have h1' : bits .and .i64 ((m / 2 ^ k : Nat) : Int) 1 = ((m / 2 ^ k &&& 1 : Nat) : Int) := h1
  rw [h1', Nat.and_one_is_mod, Nat.testBit_eq_decide_div_mod_eq, Bool.eq_iff_iff]
  simp
  omega
theorem or_form (M t : Nat) (hM : M < 32) (ht : t ≤ 4) : bits .or .i64 (M : Int) (wrap64 (2 ^ t)) = ((M ||| 2 ^ t : Nat) : Int) := by
  have hw : wrap64 ((2 : Int) ^ t) = ((2 ^ t : Nat) : Int) := by
    have h : t = 0 ∨ t = 1 ∨ t = 2 ∨ t = 3 ∨ t = 4 := by omega
    rcases h with rfl | rfl | rfl | rfl | rfl <;> (rw [IntWalk.wrap64_in _ ⟨by decide, by decide⟩] <;> rfl)
  have hp : 2 ^ t < 9223372036854775808 := by
    have := Nat.pow_le_pow_right (n := 2) (by omega) ht
    omega
  rw [hw]
  exact i64_or_nat M (2 ^ t) (by omega) hp
set_option maxRecDepth 4000 in
set_option maxHeartbeats 2000000 in
theorem l4Set_is (w : World) (m : Nat) (hm : m < 32) :
    Calls Try.prog 111 #[.int .i64 (m : Nat)] w fun r w' => ∃ A2 n2 c2, r = .returned (.slice A2 n2 c2) ∧ RIs w' w.heap.size w'.heap.size 3 1 A2 n2 c2 ((setZ m 30).map iv) ∧ Below w.heap.size w w' := by
  have ho0 := own_made (w := w) (base := w.heap.size) 3 1 (Nat.le_refl _)
  have hB0 : Below w.heap.size w (w.alloc (.cells #[] 3)) := (Below.refl _ _).alloc (Nat.le_refl _) _
  go_enter Try.func111, Try.ntmps111
  go_wp2_with fail
  go_loopw [3, 4] (fun v i wr => ∃ k : Nat, k ≤ 30 ∧ i = .int .i64 k ∧ wr.ownsRow w.heap.size 3 1 v (setZ m k).length ((setZ m k).map iv) ∧ Below w.heap.size w wr) (fun _ i _ => 30 - (intOf i).toNat)
  case atStart => exact ⟨0, Nat.zero_le _, rfl, ho0, hB0⟩
  case round =>
    obtain ⟨k, hk, rfl, hown, hB⟩ := hrel
    by_cases hlt : k < 30
    · have hlt' : (k : Int) < 30 := by omega
      have hk0 : (0 : Int) ≤ (k : Int) := by omega
      have hb := bit_form m k (by omega)
      have hs := setZ_succ m k
      have q3 : Small ((setZ m k).length + 1) := small_of (by have := setZ_len m k; omega)
      have HS := Lib.hid hs
      clear hs
      have hsz := hB.size
      cases hbit : m.testBit k
      · have hst := HS.out
        rw [hbit] at hst hb
        simp only [Bool.false_eq_true, if_false, List.append_nil] at hst
        have HST := Lib.hid hst
        clear hst hbit
        go_wp2
        go_roundw
        case rel => exact ⟨k + 1, by omega, by go_num, by rw [HST.out]; exact hown, hB⟩
        case measure => simp [intOf]; omega
      · have hst := HS.out
        rw [hbit] at hst hb
        simp only [if_true] at hst
        have HST := Lib.hid hst
        have h15 := iv_one [(k : Int)]
        have hl : (setZ m (k + 1)).length = (setZ m k).length + 1 := by rw [HST.out]; simp
        have HLL := Lib.hid hl
        obtain ⟨p, hp⟩ : ∃ p, (setZ m k).length = p := ⟨_, rfl⟩
        rw [hp] at hown q3 hl
        have HP := Lib.hid hl
        clear hst hbit hl hp HLL
        go_wp2_with (at_builtin; refine ap_plain _ app_int (by decide) w.heap.size (.tmp 15) (.tmp 17) rfl rfl _ _ _ rfl (hown.alloc _) _ _ 1 1 _ rfl (reads_new _ rfl) h15 q3 (by simp; omega) ?_; intro v6 w6 hown6 hg6 hat6; have hB6 := below_grown_own (hB.alloc hsz _) (hown.alloc _) hg6 (Nat.le_refl _) (by simp; omega); replace hown6 := own_snoc_int (k : Int) rfl hown6; clear hg6 hat6)
        go_roundw
        case rel => exact ⟨k + 1, by omega, by go_num, by rw [HP.out, HST.out]; exact hown6, hB6⟩
        case measure => simp [intOf]; omega
    · obtain rfl : k = 30 := by omega
      obtain ⟨A5, c5, rfl, _⟩ := own_form hown
      have hl := setZ_len m 30
      have RO := RIs.of hown (by omega)
      go_wp2
      go_ret
      exact ⟨_, _, _, rfl, RO, hB⟩
set_option maxRecDepth 4000 in
set_option maxHeartbeats 2000000 in
theorem specNodesAfter_is (w : World) {A B : Option Addr} {n c m d : Nat} {g : G} (h : GRd w A n B m g) (node letter : Int) :
    Calls Try.prog 47 #[.agg #[.slice A n c, .slice B m d], .int .i64 node, .int .i64 letter] w fun r w' => ∃ A2 n2 c2, r = .returned (.slice A2 n2 c2) ∧ RIs w' w.heap.size w'.heap.size 3 1 A2 n2 c2 ((afterZ g node letter).map iv) ∧ Below w.heap.size w w' := by
  have hm := h.bm
  obtain ⟨L, hL⟩ : ∃ L, stepsW g node letter = L := ⟨_, rfl⟩
  have hbd : ∀ x ∈ L.map (stTo g), 0 ≤ x ∧ x ≤ 4 := by rw [← hL]; exact stepsW_bd
  have hE : afterZ g node letter = setZ (maskZ (L.map (stTo g))) 30 := by rw [afterZ, hL, setZ_asc hbd]
  rw [hE]
  have HL := Lib.hid hL
  have HBD := Lib.hid hbd
  clear hL hE hbd
  go_enter Try.func47, Try.ntmps47
  go_wp2_with fail
  have hB0 : Below w.heap.size w (w.alloc (.cells #[.slice A n c, .slice B m d] 53)) := (Below.refl _ _).alloc (Nat.le_refl _) _
  have XG := Blk.new w 53 #[.slice A n c, .slice B m d]
  generalize (w.alloc (.cells #[.slice A n c, .slice B m d] 53)) = w0 at *
  refine (specStepsWith_is _ (h.up hB0) node letter).mono ?_
  rw [HL.out]
  rintro r w1 ⟨C, q, e, rfl, IL, hb1⟩
  have hB1 := below_then hB0 hb1
  have hS := IL.srd
  have hq := hS.bd
  have HLQ := Lib.hid hS.ln
  have XG1 := XG.below hb1 XG.lt
  have kA := XG1.kc (v := .slice A n c) 0 rfl
  have kB := XG1.kc (v := .slice B m d) 1 rfl
  clear hB0 hb1 XG
  go_wp2_with fail
  go_loopw [8, 9] (fun v i wr => ∃ (k : Nat) (z : Kept w1), wr = z.W ∧ k ≤ q ∧ i = .int .i64 k ∧ v = .int .i64 ((maskZ ((L.take k).map (stTo g)) : Nat) : Int)) (fun _ i _ => q - (intOf i).toNat)
  case atStart => exact ⟨0, ⟨w1, Below.refl _ _⟩, rfl, Nat.zero_le _, rfl, rfl⟩
  case round =>
    obtain ⟨k, z, rfl, hk, rfl, rfl⟩ := hrel
    by_cases hlt : k < q
    · obtain ⟨b, o, rfl, had, x, hx, c0, c1⟩ := step_at hS.rd HLQ.out hlt
      have y0 := Kept.cell c0
      have y1 := Kept.cell c1
      have hxb := HBD.out (stTo g x) (List.mem_map.2 ⟨x, List.mem_of_getElem? hx, rfl⟩)
      have hmk : maskZ ((L.take (k + 1)).map (stTo g)) = maskZ ((L.take k).map (stTo g)) ||| 2 ^ (stTo g x).toNat := by rw [map_take_succ (stTo g) hx, maskZ_snoc]
      have hmb : maskZ ((L.take k).map (stTo g)) < 32 := maskZ_lt (fun y hy => HBD.out y (by
        obtain ⟨s, hs, rfl⟩ := List.mem_map.1 hy
        exact List.mem_map.2 ⟨s, List.mem_of_mem_take hs, rfl⟩))
      have HMK := Lib.hid hmk
      have hlt' : (k : Int) < q := by omega
      have hk0 : (0 : Int) ≤ (k : Int) := by omega
      obtain ⟨xe, xi⟩ := x
      dsimp only at y0 y1
      obtain ⟨t, ht, ht4⟩ : ∃ t : Nat, stTo g ⟨xe, xi⟩ = t ∧ t ≤ 4 := ⟨(stTo g ⟨xe, xi⟩).toNat, by omega, by omega⟩
      have HT := Lib.hid ht
      obtain ⟨M, hM⟩ : ∃ M, maskZ ((L.take k).map (stTo g)) = M := ⟨_, rfl⟩
      rw [hM] at hmb ⊢
      have HM := Lib.hid hM
      clear hx c0 c1 hxb hmk ht hM
      have hcall : ∀ x : Kept w1, Calls Try.prog 110 #[.agg #[.slice A n c, .slice B m d], .agg #[.int .i64 xe, .bool xi]] x.W fun r w' => r = .returned (.int .i64 (t : Int)) ∧ Below x.W.heap.size x.W w' := fun x => by
        have hc := specStepTo_is (c := c) (d := d) x.W (h.up (below_then hB1 x.be)) ⟨xe, xi⟩
        rw [HT.out] at hc
        exact hc
      have HC := Lib.hid hcall
      clear hcall
      go_wp2_with fail
      refine wp_region_k2 (by kernel_rfl) (by kernel_rfl) ?_
      repeat (go_big_quiet_step ((go_at_call 110; exact Calls.kept (HC.out _))))
      refine wpQuiet_nil ?_
      intro _ hw'
      obtain ⟨z2, rfl⟩ := hw'
      go_wp2
      go_roundw
      case rel =>
        refine ⟨k + 1, z2, rfl, by omega, by go_num, ?_⟩
        rw [or_form M t hmb ht4, HMK.out, HM.out, HT.out]
        simp
      case measure => simp [intOf]; omega
    · obtain rfl : k = q := by omega
      have hlt' : ¬ (k : Int) < k := by omega
      have hmb : maskZ (L.map (stTo g)) < 32 := maskZ_lt HBD.out
      rw [List.take_of_length_le (by have := HLQ.out; omega)]
      obtain ⟨M, hM⟩ : ∃ M, maskZ (L.map (stTo g)) = M := ⟨_, rfl⟩
      rw [hM] at hmb ⊢
      have HM := Lib.hid hM
      clear hM
      have hsz := z.be.size
      have hB3 := below_then hB1 z.be
      have hs3 := hB3.size
      go_wp2_with fail
      refine (l4Set_is _ M hmb).mono ?_
      rintro r w6 ⟨A6, n6, c6, rfl, I6, hb6⟩
      have hB6 := below_then hB3 hb6
      go_wp2
      go_ret
      rw [HM.out]
      exact ⟨_, _, _, rfl, I6.wide hs3 (Nat.le_refl _), hB6⟩
end Go.Proofs.Ytolilkbejghocaa
