/- ParseWord of both packages. -/
import Derived.Test.YtljggmgijadjaaaDoorSpl
namespace Go.Proofs.YtljggmgijadjaaaDoor
open Go.RowKit Go.ChangeShapes Go.WideShapes Go.ChangeAt Go.Deep
set_option linter.unusedVariables false
def prsWdN (l : List UInt8) : List Int := (prsWd l).getD []
def prsWdB (l : List UInt8) : Bool := (prsWd l).isSome
theorem TRd.cells {w : World} {A : Option Addr} {n : Nat} {L : List (List UInt8)} (h : TRd w A n L) (hn : 0 < n) : ∃ b o, A = some ⟨b, o, none⟩ ∧ b < w.heap.size ∧ ∀ j s, L[j]? = some s → w.cell? ⟨b, o + j, none⟩ = some (.string ⟨s.toArray⟩) := by
  obtain ⟨b, o, s0, hA, hb, _, _⟩ := h.at_ (k := 0) hn
  refine ⟨b, o, hA, hb, fun j s hj => ?_⟩
  have hl := h.ln
  obtain ⟨b2, o2, s2, hA2, _, hs2, hc2⟩ := h.at_ (k := j) (by have := (List.getElem?_eq_some_iff.1 hj).1; omega)
  rw [hA] at hA2
  injection hA2 with hA2
  injection hA2 with e1 e2
  subst e1
  subst e2
  rw [hj] at hs2
  injection hs2 with hs2
  subst hs2
  exact hc2
theorem all_no {α : Type} {p : α → Bool} {l : List α} {k : Nat} {s : α} (h : l[k]? = some s) (h2 : p s = false) : l.all p = false := by
  rw [List.all_eq_false]
  exact ⟨s, List.mem_of_getElem? h, by simp [h2]⟩
theorem all_yes {α : Type} {p : α → Bool} {l : List α} {k : Nat} {s : α} (h : l[k]? = some s) (h1 : (l.take k).all p = true) (h2 : p s = true) : (l.take (k + 1)).all p = true := by
  rw [List.take_add_one, h, List.all_append, h1]
  simp [h2]
theorem map_take {α β : Type} (f : α → β) {l : List α} {k : Nat} {s : α} (h : l[k]? = some s) : (l.take (k + 1)).map f = (l.take k).map f ++ [f s] := by
  rw [List.take_add_one, h]
  simp
theorem prsWd_paren {l : List UInt8} (h : l = [40, 41]) : prsWd l = some [] := by unfold prsWd; rw [if_pos h]
theorem prsWd_if {l : List UInt8} (h : l ≠ [40, 41]) : prsWd l = if (cutL 32 l).all parseLB && wordB ((cutL 32 l).map parseLN) then some ((cutL 32 l).map parseLN) else none := by unfold prsWd; rw [if_neg h]
theorem prsWd_ifS {l : List UInt8} (h : l ≠ [40, 41]) : prsWd l = if ((cutL 32 l).take 9).all parseLB && wordB (((cutL 32 l).take 9).map parseLN) then some (((cutL 32 l).take 9).map parseLN) else none := by rw [← prsWdS_eq]; unfold prsWdS; rw [if_neg h]
theorem own_snoc_n {w : World} {base n : Nat} {e : TypeId} {v x : Value} {L : List Int} (y : Int) (hx : x = iv y) (h : w.ownsRow base e 1 v (n + 1) (L.map iv ++ x.cells.toList)) : w.ownsRow base e 1 v (n + 1) ((L ++ [y]).map iv) := by
  subst hx
  rw [List.map_append]
  exact h
theorem nil_is (w : World) (lo : Nat) (h : lo ≤ w.heap.size) : RIs w lo w.heap.size 3 1 none 0 0 [] := RIs.of (World.ownsRow_nil _ _ _ _) (by omega)
set_option maxRecDepth 4000 in
set_option maxHeartbeats 4000000 in
theorem implParseWord_is (w : World) (TM : TabM w) (s : ByteArray) (hs : s.size ≤ 1048576) :
    Calls Tryd.prog 26 #[.string s] w fun e w' => ∃ A n c, e = .returned (.tuple #[.slice A n c, .bool (prsWdB s.data.toList)]) ∧ RIs w' w.heap.size w'.heap.size 3 1 A n c ((prsWdN s.data.toList).map iv) ∧ Below w.heap.size w w' := by
  have hbM : Below w.heap.size w (w.alloc (.cells #[] 3)) := (Below.refl _ _).alloc (Nat.le_refl _) _
  have hoM := own_made (w := w) (base := w.heap.size) 3 1 (Nat.le_refl _)
  by_cases hp0 : s.data.toList = [40, 41]
  · have hp := prsWd_paren hp0
    have HN : RowKit.Hid (prsWdN s.data.toList = []) := Lib.hid (by unfold prsWdN; rw [hp]; rfl)
    have HB : RowKit.Hid (prsWdB s.data.toList = true) := Lib.hid (by unfold prsWdB; rw [hp]; rfl)
    have hs0 : s.toList = [40, 41] := by rw [ByteArray.toList_eq]; exact hp0
    clear hp hp0
    go_enter Tryd.func26, Tryd.ntmps26
    go_wp2
    rw [HB.out, HN.out]
    go_ret2
    exact ⟨_, _, _, rfl, RIs.of hoM (by omega), hbM⟩
  · have hs0 : (s.toList == [40, 41]) = false := by rw [beq_eq_false_iff_ne, ByteArray.toList_eq]; exact hp0
    have HIF := Lib.hid (prsWd_if hp0)
    obtain ⟨C, hC⟩ : ∃ C, cutL 32 s.data.toList = C := ⟨_, rfl⟩
    have hne : C ≠ [] := by rw [← hC]; exact cutL_ne _ _
    obtain ⟨y0, hy0⟩ := Kept.fst hbM
    rw [hy0] at hoM hbM
    have hcut := split_lo y0.W (TM.up hbM) 32 s hs
    rw [hC] at hcut
    have HCUT := Lib.hid hcut
    have HC := Lib.hid hC
    have HO0 := Lib.hid hoM
    have hb0s := hbM.size
    have hlt0 : w.heap.size < y0.W.heap.size := by rw [← hy0]; simp
    clear hC hcut hoM hp0
    go_enter Tryd.func26, Tryd.ntmps26
    go_wp2_with fail
    clear hy0
    refine HCUT.out.mono ?_
    rintro e w1 ⟨A, n, c, rfl, TR, hb1, hlo⟩
    have hn0 : 0 < n := by
      have := TR.ln
      rcases Nat.eq_zero_or_pos n with rfl | h
      · exact absurd (List.eq_nil_of_length_eq_zero this) hne
      · exact h
    have HLN := Lib.hid TR.ln
    have hnb := TR.bd
    obtain ⟨b, o, rfl, hbl, hcells⟩ := TR.cells hn0
    have hbo := hlo _ rfl
    have ho1 := own_below HO0.out hb1 (Nat.le_refl _)
    obtain ⟨y1, rfl⟩ := y0.of hb1
    dsimp only at hbo
    clear hb1 hlo TR HCUT HO0
    go_wp2
    go_loopw [4, 16] (fun v i wr => ∃ (k : Nat) (z : Kept w), wr = z.W ∧ k ≤ n ∧ i = .int .i64 k ∧ z.W.ownsRow w.heap.size 3 1 v k (((C.take k).map parseLN).map iv) ∧ (C.take k).all parseLB = true ∧ v.ownBlock ≠ some b ∧ b < z.W.heap.size ∧ ∀ j s, C[j]? = some s → z.W.cell? ⟨b, o + j, none⟩ = some (.string ⟨s.toArray⟩)) (fun _ i _ => n - (intOf i).toNat)
    case atStart =>
      refine ⟨0, y1, rfl, Nat.zero_le _, rfl, ho1, rfl, ?_, hbl, hcells⟩
      simp only [Value.ownBlock]
      intro h
      injection h with h
      omega
    case round =>
      clear ho1 hbl hcells
      obtain ⟨k, z, rfl, hk, rfl, hown, hall, hnob, hbl, hcells⟩ := hrel
      have HA := Lib.hid hall
      have hzs := z.be.size
      clear hall
      by_cases hlt : k < n
      · have hl9 := hlt
        obtain ⟨p, hp⟩ : ∃ p, C[k]? = some p := ⟨_, List.getElem?_eq_getElem (by have := HLN.out; omega)⟩
        have hc := hcells k p hp
        have hlt' : (k : Int) < n := by omega
        have hk0 : (0 : Int) ≤ (k : Int) := by omega
        cases hpb : parseLB p
        · have hpn : prsWd s.data.toList = none := by
            rw [HIF.out, HC.out, all_no hp hpb]
            simp
          have HN : RowKit.Hid (prsWdN s.data.toList = []) := Lib.hid (by unfold prsWdN; rw [hpn]; rfl)
          have HB : RowKit.Hid (prsWdB s.data.toList = false) := Lib.hid (by unfold prsWdB; rw [hpn]; rfl)
          have HL := Lib.hid (implParseL_any ⟨p.toArray⟩ z.W)
          have HPB := Lib.hid hpb
          clear hpn hp hcells hnob hpb
          go_wp2_with fail
          refine HL.out.mono ?_
          rw [HPB.out]
          rintro e w2 ⟨rfl, hb2⟩
          have hB2 := below_then z.be hb2
          have hbF : Below w.heap.size w (w2.alloc (.cells #[] 3)) := hB2.alloc hB2.size _
          have hoF := own_made (w := w2) (base := w.heap.size) 3 1 hB2.size
          have hnl := nil_is w2 w.heap.size hB2.size
          go_wp2
          rw [HB.out, HN.out]
          go_ret2
          exact ⟨_, _, _, rfl, hnl, hB2⟩
        · have HM := Lib.hid (map_take parseLN hp)
          have HA2 := Lib.hid (all_yes hp HA.out hpb)
          have HL := Lib.hid (implParseL_any ⟨p.toArray⟩ z.W)
          have HPB := Lib.hid hpb
          have q3 : Small (k + 1) := small_of (by omega)
          clear hp hpb
          go_wp2_with fail
          refine HL.out.mono ?_
          rw [HPB.out]
          rintro e w2 ⟨rfl, hb2⟩
          have ho2 := own_below hown hb2 (Nat.le_refl _)
          have hc2 : ∀ j s, C[j]? = some s → w2.cell? ⟨b, o + j, none⟩ = some (.string ⟨s.toArray⟩) := fun j s h => cell_keep hb2 (hcells j s h)
          have hbl2 := Nat.lt_of_lt_of_le hbl hb2.size
          obtain ⟨z2, rfl⟩ := z.of hb2
          have hz2s := z2.be.size
          clear hb2 hown hcells hc
          go_wp2_with (at_builtin; refine ap_plain _ app_int (by decide) w.heap.size (.tmp 27) (.tmp 29) rfl rfl _ _ _ rfl (ho2.alloc _) _ _ 1 1 _ rfl (reads_new _ rfl) (iv_one [parseLN p]) q3 (by simp; omega) ?_; intro v7 w7 hown7 hg7 hat7; have hB7 := below_grown_own (z2.be.alloc hz2s _) (ho2.alloc _) hg7 (Nat.le_refl _) (by simp; omega); replace hown7 := own_snoc_n (parseLN p) rfl hown7; have hs7 := hg7.size; have hc7 : ∀ j s, C[j]? = some s → w7.cell? ⟨b, o + j, none⟩ = some (.string ⟨s.toArray⟩) := (fun j s h => (World.cell?_of_block (hg7.block b (by simp; omega) (fun e => hnob e.symm))).trans (cell_al _ (hc2 j s h))); have hno7 : v7.ownBlock ≠ some b := (by rcases hat7 with h | h <;> rw [h] <;> first | exact hnob | (intro e; injection e with e; simp at e; omega)); clear hg7 hat7; obtain ⟨z7, rfl⟩ := Kept.fst hB7)
          go_roundw
          case rel => exact ⟨k + 1, z7, rfl, by omega, by go_num, by rw [HM.out]; exact hown7, HA2.out, hno7, by simp at hs7; omega, hc7⟩
          case measure => simp [intOf]; omega
      · obtain rfl : k = n := by omega
        have hlt' : ¬ (k : Int) < k := by omega
        have hA3 := HA.out
        rw [List.take_of_length_le (by have := HLN.out; omega)] at hown hA3
        have hif := HIF.out
        rw [HC.out, hA3, Bool.true_and] at hif
        obtain ⟨A2, c2, rfl, _, _, hrd⟩ := own_form hown
        obtain ⟨xs, hxs⟩ : ∃ xs, (C).map parseLN = xs := ⟨_, rfl⟩
        rw [hxs] at hif hrd hown
        have hxl : xs.length = k := by rw [← hxs, List.length_map]; exact HLN.out
        have HW := Lib.hid (implIsWord_any A2 k c2 xs z.W hxl (by omega) hrd)
        have HO := Lib.hid hown
        cases hwb : wordB xs
        · have hpn : prsWd s.data.toList = none := by rw [hif, hwb]; rfl
          have HN : RowKit.Hid (prsWdN s.data.toList = []) := Lib.hid (by unfold prsWdN; rw [hpn]; rfl)
          have HB : RowKit.Hid (prsWdB s.data.toList = false) := Lib.hid (by unfold prsWdB; rw [hpn]; rfl)
          have HWB := Lib.hid hwb
          have hzb := z.be
          have hbF : Below w.heap.size w (z.W.alloc (.cells #[] 3)) := hzb.alloc hzb.size _
          have hoF := own_made (w := z.W) (base := w.heap.size) 3 1 hzb.size
          have hnl := nil_is z.W w.heap.size hzb.size
          clear hpn hif hwb hown hcells hxs hxl hrd
          go_wp2_with fail
          all_goals
            refine HW.out.mono ?_
            rw [HWB.out]
            rintro e w2 ⟨rfl, rfl⟩
            go_wp2
            rw [HB.out, HN.out]
            go_ret2
            exact ⟨_, _, _, rfl, hnl, hzb⟩
        · have hpn : prsWd s.data.toList = some xs := by rw [hif, hwb]; rfl
          have HN : RowKit.Hid (prsWdN s.data.toList = xs) := Lib.hid (by unfold prsWdN; rw [hpn]; rfl)
          have HB : RowKit.Hid (prsWdB s.data.toList = true) := Lib.hid (by unfold prsWdB; rw [hpn]; rfl)
          have HWB := Lib.hid hwb
          have hzb := z.be
          clear hpn hif hwb hown hcells hxs hxl hrd
          go_wp2_with fail
          all_goals
            refine HW.out.mono ?_
            rw [HWB.out]
            rintro e w2 ⟨rfl, rfl⟩
            go_wp2
            rw [HB.out, HN.out]
            go_ret2
            exact ⟨_, _, _, rfl, RIs.of HO.out (by omega), hzb⟩
end Go.Proofs.YtljggmgijadjaaaDoor
