/- ParseGraph of both packages. -/
import Derived.Test.YtljggmgijadjaaaGreatDoorPrsB
import Derived.Test.YtljggmgijadjaaaGreatDoorFmtG
namespace Go.Proofs.YtljggmgijadjaaaGreatDoor
open Go.RowKit Go.ChangeShapes Go.WideShapes Go.ChangeAt Go.Deep
set_option linter.unusedVariables false
def prsGr (l : List UInt8) : G := (prsG l).getD ⟨[], []⟩
def prsGrB (l : List UInt8) : Bool := (prsG l).isSome
theorem prsG_if {l p : List UInt8} {r : List (List UInt8)} (h : cutL 32 l = p :: r) : prsG l = match prsEs r with
    | some es => if fmtG ⟨p.map dv, es⟩ = l ∧ l ≠ [] then some ⟨p.map dv, es⟩ else none
    | none => none := by
  unfold prsG
  rw [h]
  rfl
theorem prsG_ifS {l p : List UInt8} {r : List (List UInt8)} (h : cutL 32 l = p :: r) : prsG l = match prsEs (r.take 13) with
    | some es => if validG ⟨(p.take 6).map dv, es⟩ then some ⟨(p.take 6).map dv, es⟩ else none
    | none => none := by
  rw [← prsGS_eq]
  unfold prsGS
  rw [h]
  rfl
theorem prsEs_no {l : List (List UInt8)} {k : Nat} {p : List UInt8} (h : l[k]? = some p) (hp : prsE p = none) : prsEs l = none := by
  rw [take_cons_drop h]
  exact prsEs_bad _ _ _ hp
theorem prsEs_more {l : List (List UInt8)} {k : Nat} {p : List UInt8} {L : List E} {x : E} (h : l[k]? = some p) (hL : prsEs (l.take k) = some L) (hp : prsE p = some x) : prsEs (l.take (k + 1)) = some (L ++ [x]) := by
  rw [List.take_add_one, h]
  simp only [Option.toList_some]
  rw [prsEs_snoc _ L p hL, hp]
  rfl
theorem dv_wrap (c : UInt8) : IntKind.i64.wrap ((c.toNat : Int) - 48) = dv c := by
  have := c.toNat_lt
  unfold dv
  exact IntWalk.i64_in _ (by omega)
theorem dv_take {p : List UInt8} {k : Nat} {c : UInt8} (h : p[k]? = some c) : (p.take (k + 1)).map dv = (p.take k).map dv ++ [dv c] := by
  rw [List.take_add_one, h]
  simp
set_option maxRecDepth 4000 in
set_option maxHeartbeats 8000000 in
theorem implParseGraph_is (w : World) (s : ByteArray) (TP : TabP w) (TE : TabE w) (TM : TabM w) (hs : s.size ≤ 1048576) :
    Calls Tryz.prog 15 #[.string s] w fun e w' => ∃ A n c B m d, e = .returned (.tuple #[.agg #[.slice A n c, .slice B m d], .bool (prsGrB s.data.toList)]) ∧ GIs w' w.heap.size w'.heap.size A n c B m d ((prsGr s.data.toList).vs.map iv) (ecs (prsGr s.data.toList).es) ∧ Below w.heap.size w w' := by
  have HB : Below w.heap.size w (w.alloc (.cells #[.slice none 0 0, .slice none 0 0] 27)) := (Below.refl _ _).alloc (Nat.le_refl _) _
  have XR := Blk.new w 27 #[.slice none 0 0, .slice none 0 0]
  generalize hw0 : w.alloc (.cells #[.slice none 0 0, .slice none 0 0] 27) = w0 at *
  obtain ⟨C, hC⟩ : ∃ C, cutL 32 s.data.toList = C := ⟨_, rfl⟩
  obtain ⟨p0, R, rfl⟩ : ∃ p0 R, C = p0 :: R := by
    cases C with
    | nil => exact absurd hC (cutL_ne _ _)
    | cons p0 R => exact ⟨p0, R, rfl⟩
  have HP := Lib.hid (prsG_if hC)
  have hpl : ∀ p ∈ p0 :: R, p.length ≤ s.size := fun p hp => by rw [Lib.size_eq]; exact piece_len (by rw [hC]; exact hp)
  have HPL := Lib.hid hpl
  obtain ⟨S, hS⟩ : ∃ S : ByteArray, (⟨p0.toArray⟩ : ByteArray) = S := ⟨_, rfl⟩
  obtain ⟨N, hN⟩ : ∃ N, p0.length = N := ⟨_, rfl⟩
  have hSz : S.size = N := by rw [← hS, mk_sz, hN]
  have hNs : N ≤ 1048576 := by have := hpl p0 (by simp); omega
  have HSL : RowKit.Hid (S.data.toList = p0) := Lib.hid (by subst hS; rfl)
  have HNL := Lib.hid hN
  have HSS := Lib.hid hS
  have hcut := split_cap w0 (TM.up HB) 32 s hs
  rw [hC] at hcut
  have HCUT := Lib.hid hcut
  have HW0 := Lib.hid hw0
  clear hcut hC hpl hN hS hw0
  go_enter Tryz.func15, Tryz.ntmps15
  go_wp2_with fail
  try rw [HW0.out]
  refine HCUT.out.mono ?_
  rintro e w1 ⟨A, n, rfl, TR, hb1⟩
  obtain ⟨m, rfl⟩ : ∃ m, n = m + 1 := ⟨n - 1, by have := TR.ln; simp at this; omega⟩
  have HLN := Lib.hid (show R.length = m by have := TR.ln; simpa using this)
  have hnb := TR.bd
  obtain ⟨b, o, rfl, hbl, hcells⟩ := TR.cells (by omega)
  have XR1 := XR.below hb1 XR.lt
  have hB1 := below_then HB hb1
  have hb2 : Below w1.heap.size w1 (w1.alloc (.cells #[.slice none 0 0, .slice none 0 0] 27)) := (Below.refl _ _).alloc (Nat.le_refl _) _
  have XG := Blk.new w1 27 #[.slice none 0 0, .slice none 0 0]
  have hB2 := below_then hB1 hb2
  have XR2 := XR1.below hb2 XR1.lt
  have hrg : w.heap.size < w1.heap.size := XR1.lt
  have hgl : w1.heap.size < (w1.alloc (.cells #[.slice none 0 0, .slice none 0 0] 27)).heap.size := XG.lt
  have hcells2 : ∀ j s, (p0 :: R)[j]? = some s → (w1.alloc (.cells #[.slice none 0 0, .slice none 0 0] 27)).cell? ⟨b, o + j, none⟩ = some (.string ⟨s.toArray⟩) := fun j s h => cell_keep hb2 (hcells j s h)
  have c0 := hcells2 0 p0 rfl
  rw [Nat.add_zero, HSS.out] at c0
  clear hcells TR hb1 XR XR1 HB hB1 HCUT hb2
  generalize hw2 : w1.alloc (.cells #[.slice none 0 0, .slice none 0 0] 27) = w2 at *
  generalize hgg : w1.heap.size = g at *
  obtain ⟨y2, hy2⟩ : ∃ y : KeptB w2 g, w2 = y.W := ⟨⟨w2, Tch.refl _ _ _⟩, rfl⟩
  have HW := Lib.hid (hw2.trans hy2)
  have XG2 : Blk y2.W g 27 #[.slice none 0 0, .slice none 0 0] := by rw [← hy2]; exact XG
  have hc1 : ∀ z : KeptB w2 g, z.W.cell? ⟨b, o, none⟩ = some (.string S) := fun z => KeptB.cell c0 (by dsimp only; omega) z
  have TP4 := TP.up hB2
  have TE4 := TE.up hB2
  have TM4 := TM.up hB2
  have ltP := Nat.lt_of_lt_of_le TP.lt (Nat.le_of_lt hrg)
  have ltE := Nat.lt_of_lt_of_le TE.lt (Nat.le_of_lt hrg)
  have ltM := Nat.lt_of_lt_of_le TM.lt (Nat.le_of_lt hrg)
  have HKP : RowKit.Hid (∀ z : KeptB w2 g, TabP z.W) := Lib.hid (fun z => TP4.tch z.be ltP)
  have HKE : RowKit.Hid (∀ z : KeptB w2 g, TabE z.W) := Lib.hid (fun z => TE4.tch z.be ltE)
  have HKM : RowKit.Hid (∀ z : KeptB w2 g, TabM z.W) := Lib.hid (fun z => TM4.tch z.be ltM)
  have hm1 : ((m + 1 : Nat) : Int) = (m : Int) + 1 := by omega
  clear hw2 hy2 XG TP4 TE4 TM4 ltP ltE ltM c0
  go_wp2
  rw [HW.out]
  go_loopw [6] (fun i wr => ∃ (k : Nat) (z : KeptB w2 g) (v : Value), wr = z.W ∧ k ≤ N ∧ i = .int .i64 k ∧ Blk z.W g 27 #[v, .slice none 0 0] ∧ z.W.ownsRow w2.heap.size 3 1 v k (((p0.take k).map dv).map iv)) (fun i _ => N - (intOf i).toNat)
  case atStart => exact ⟨0, y2, _, rfl, Nat.zero_le _, rfl, XG2, World.ownsRow_nil _ _ _ _⟩
  case round =>
    clear XG2
    obtain ⟨k, z, v, rfl, hk, rfl, XG, hu⟩ := hrel
    have hzs := z.be.size
    obtain ⟨A1, d1, rfl, _⟩ := own_form hu
    by_cases hlt : k < N
    · have hkS : k < S.size := by omega
      obtain ⟨c, hc⟩ : ∃ c, S[k] = c := ⟨_, rfl⟩
      have hcd : p0[k]? = some c := by
        rw [← HSL.out, List.getElem?_eq_getElem (by simpa using hkS), ← hc]
        rfl
      have hdt := dv_take hcd
      have hdw := dv_wrap c
      have hcw : IntKind.i64.wrap (c.toNat : Int) = (c.toNat : Int) := IntWalk.i64_in _ (by have := c.toNat_lt; omega)
      obtain ⟨dd, hdd⟩ : ∃ dd, dv c = dd := ⟨_, rfl⟩
      rw [hdd] at hdt hdw
      have HM := Lib.hid hdt
      have hlt' : (k : Int) < N := by omega
      have hk0 : (0 : Int) ≤ (k : Int) := by omega
      have q3 : Small (k + 1) := small_of (by omega)
      obtain ⟨zD, hzD⟩ := z.of ((Below.refl z.W.heap.size z.W).drew)
      have XGD := XG.drew
      have huD := own_drew hu
      rw [hzD] at XGD huD
      have hA8 : Below zD.W.heap.size zD.W (zD.W.alloc (.cells #[.int .i64 dd] 3)) := (Below.refl _ _).alloc (Nat.le_refl _) _
      have XG8 := XGD.below hA8 XGD.lt
      have hu8 := own_below huD hA8 (Nat.le_refl _)
      have hrn := reads_new (w := zD.W) (e := 3) (size := 1) (m := 1) #[.int .i64 dd] rfl
      obtain ⟨z8, hz8⟩ := zD.of hA8
      rw [hz8] at XG8 hu8 hrn
      have hle8 := z8.be.size
      have h1c : ∀ u ∈ (#[.int .i64 dd] : Array Value).toList, u.oneCell' = true := by
        intro u hu
        simp at hu
        rcases hu with rfl <;> rfl
      have gD := XGD.cell 0
      have g8 := XG8.cell 0
      clear hdt hdd hcd hA8 XGD XG hu
      go_wp2_with fail
      go_region_law (first
        | (refine ap_step _ app_int (by decide) w2.heap.size (.tmp 23) (.tmp 31) rfl rfl _ _ _ rfl hu8 _ _ 1 1 _ rfl hrn h1c q3 hle8 ?_; intro v9 w9 hown9 hg9 hat9; obtain ⟨A9, d9, rfl, _⟩ := own_form hown9; have XG9 := XG8.grown hg9 (fun hq => by have := (ownBlock_some hu8 hq.symm).1; omega); obtain ⟨z9, rfl⟩ := KeptB.grown_ z8 hu8 (Nat.le_refl _) hg9; have g9c := XG9.cell 0; have g9f := XG9.frozen 0; have hown10 := ownsRow_setCell_below hown9 (a := ⟨g, 0, none⟩) hgl (.slice A9 (k + 1) d9); have XG10 := XG9.set_ 0 (.slice A9 (k + 1) d9); obtain ⟨z10, hz10⟩ := KeptB.set z9 hgl 0 (.slice A9 (k + 1) d9); rw [hz10] at hown10 XG10; clear hg9 hat9 hown9 XG9))
      all_goals
        go_wp2
        go_roundw
        case rel => exact ⟨k + 1, z10, _, rfl, by omega, by go_num, XG10, by rw [HM.out, List.map_append]; exact hown10⟩
        case measure => simp [intOf]; omega
    · obtain rfl : N = k := by omega
      have hlt' : ¬ (N : Int) < N := by omega
      have hpt : p0.take N = p0 := List.take_of_length_le (by have := HNL.out; omega)
      rw [hpt] at hu
      obtain ⟨vs, hvs⟩ : ∃ vs, p0.map dv = vs := ⟨_, rfl⟩
      have hP := HP.out
      rw [hvs] at hu hP
      have HP2 := Lib.hid hP
      have HVL : RowKit.Hid (vs.length = N) := Lib.hid (by rw [← hvs, List.length_map, HNL.out])
      have hB3 := below_tch hB2 z.be (by omega)
      have XR3 := XR2.tch z.be (.inl (by omega))
      have hcells3 : ∀ j s, (p0 :: R)[j]? = some s → z.W.cell? ⟨b, o + j, none⟩ = some (.string ⟨s.toArray⟩) := fun j s h => KeptB.cell (hcells2 j s h) (by dsimp only; omega) z
      have TP3 := HKP.out z
      have TE3 := HKE.out z
      have TM3 := HKM.out z
      have hg3 : g < z.W.heap.size := XG.lt
      have ltP := Nat.lt_of_lt_of_le TP.lt (Nat.le_of_lt hrg)
      have ltE := Nat.lt_of_lt_of_le TE.lt (Nat.le_of_lt hrg)
      have ltM := Nat.lt_of_lt_of_le TM.lt (Nat.le_of_lt hrg)
      have c3 := hcells3 0 p0 rfl
      rw [Nat.add_zero, HSS.out] at c3
      generalize z.W = w3 at *
      obtain ⟨y3, hy3⟩ : ∃ y : KeptB w3 g, w3 = y.W := ⟨⟨w3, Tch.refl _ _ _⟩, rfl⟩
      have XG3 : Blk y3.W g 27 #[.slice A1 N d1, .slice none 0 0] := by rw [← hy3]; exact XG
      have HKP2 : RowKit.Hid (∀ z : KeptB w3 g, TabP z.W) := Lib.hid (fun z => TP3.tch z.be ltP)
      have HKE2 : RowKit.Hid (∀ z : KeptB w3 g, TabE z.W) := Lib.hid (fun z => TE3.tch z.be ltE)
      have HKM2 : RowKit.Hid (∀ z : KeptB w3 g, TabM z.W) := Lib.hid (fun z => TM3.tch z.be ltM)
      have hc3 : ∀ z : KeptB w3 g, z.W.cell? ⟨b, o, none⟩ = some (.string S) := fun z => KeptB.cell c3 (by dsimp only; omega) z
      have HU : RowKit.Hid (∀ z : KeptB w3 g, z.W.ownsRow w2.heap.size 3 1 (.slice A1 N d1) N (vs.map iv)) := Lib.hid (fun z => (OwnIn.tch (OwnIn.of hu) z.be (.inr (by omega))).row)
      rw [hy3]
      clear hy3 XG hpt hvs hP TP3 TE3 TM3 ltP ltE ltM c3 HP
      by_cases hm0 : m = 0
      · subst hm0
        have hR : R = [] := List.eq_nil_of_length_eq_zero HLN.out
        subst hR
        go_wp2
        go_loopw [37] (fun i wr => i = .int .i64 0 ∧ wr = y3.W) (fun _ _ => 0)
        case atStart => exact ⟨rfl, rfl⟩
        case round =>
          obtain ⟨rfl, rfl⟩ := hrel
          have hp2 : prsG s.data.toList = if fmtG ⟨vs, []⟩ = s.data.toList ∧ s.data.toList ≠ [] then some ⟨vs, []⟩ else none := HP2.out
          have hu := HU.out y3
          have XR4 := XR3.tch y3.be (.inl (by omega))
          have hB4 := below_tch hB3 y3.be (by omega)
          have x0 := XG3.cell 0
          have x1 := XG3.cell 1
          have hF := implFormatGraph_is y3.W (A := A1) (n := N) (c := d1) (B := none) (m := 0) (d := 0) (g := ⟨vs, []⟩) ⟨⟨HVL.out, rfl, Reads.of_own hu, Reads.of_own (World.ownsRow_nil y3.W y3.W.heap.size 29 4)⟩, by omega, by omega⟩ (HKP2.out y3)
          obtain ⟨F, hFe⟩ : ∃ F, fmtG ⟨vs, []⟩ = F := ⟨_, rfl⟩
          rw [hFe] at hF hp2
          have HF := Lib.hid hF
          clear hF hFe
          go_wp2_with fail
          with_reducible refine HF.out.mono ?_
          rintro e w6 ⟨rfl, hb6⟩
          have XR6 := XR4.below hb6 XR4.lt
          have XG6 := XG3.below hb6 XG3.lt
          have ho6 := World.ownsRow_nil w6 w3.heap.size 29 4
          have hu6 := own_below hu hb6 (Nat.le_refl _)
          have hB6 := below_then hB4 hb6
          have d0_ := XG6.cell 0
          have d1_ := XG6.cell 1
          have hw6 : w.heap.size ≤ w2.heap.size := by omega
          have hw7 : w.heap.size ≤ w3.heap.size := by omega
          clear x0 x1 XR4 hB4 hb6 hu HF XG6
          by_cases hok : F = s.data.toList
          · have hfs : (F == s.toList) = true := by rw [beq_iff_eq, ByteArray.toList_eq]; exact hok
            by_cases h0 : s.data.toList = []
            · have hpn : prsG s.data.toList = none := by rw [hp2, if_neg (fun h => h.2 h0)]
              have hs0 : (s.toList == ([] : List UInt8)) = true := by rw [beq_iff_eq, ByteArray.toList_eq]; exact h0
              have HN : RowKit.Hid (prsGr s.data.toList = ⟨[], []⟩) := Lib.hid (by unfold prsGr; rw [hpn]; rfl)
              have HBB : RowKit.Hid (prsGrB s.data.toList = false) := Lib.hid (by unfold prsGrB; rw [hpn]; rfl)
              have r0 := XR6.cell 0
              have r1 := XR6.cell 1
              have q0 := XR6.frozen 0
              have q1 := XR6.frozen 1
              have hBF := (hB6.setCell (p := ⟨w.heap.size, 0, none⟩) (Nat.le_refl _) (.slice none 0 0)).setCell (p := ⟨w.heap.size, 1, none⟩) (Nat.le_refl _) (.slice none 0 0)
              clear hpn hp2 hok h0
              go_wp2
              rw [HBB.out]
              refine bodyPost_ret (v := .tuple #[.agg #[.slice none 0 0, .slice none 0 0], .bool false]) ?_ rfl ?_
              · simp [results, Tryz.results15, go_sem]
                go_simp
              · exact ⟨none, 0, 0, none, 0, 0, rfl, by rw [HN.out]; exact GIs.wide ⟨RIs.of (World.ownsRow_nil _ w.heap.size _ _) (by omega), RIs.of (World.ownsRow_nil _ w.heap.size _ _) (by omega)⟩ (Nat.le_refl _) (by simp), hBF⟩
            · rw [if_pos ⟨hok, h0⟩] at hp2
              have hs0 : (s.toList == ([] : List UInt8)) = false := by rw [beq_eq_false_iff_ne, ByteArray.toList_eq]; exact h0
              have r0 := XR6.cell 0
              have r1 := XR6.cell 1
              have q0 := XR6.frozen 0
              have q1 := XR6.frozen 1
              have HN : RowKit.Hid (prsGr s.data.toList = ⟨vs, []⟩) := Lib.hid (by unfold prsGr; rw [hp2]; rfl)
              have HBB : RowKit.Hid (prsGrB s.data.toList = true) := Lib.hid (by unfold prsGrB; rw [hp2]; rfl)
              have hBF := (hB6.setCell (p := ⟨w.heap.size, 0, none⟩) (Nat.le_refl _) (.slice A1 N d1)).setCell (p := ⟨w.heap.size, 1, none⟩) (Nat.le_refl _) (.slice none 0 0)
              have OU := ((RIs.of hu6 (by omega)).setB (p := ⟨w.heap.size, 0, none⟩) (by dsimp only; omega) (.slice A1 N d1)).setB (p := ⟨w.heap.size, 1, none⟩) (by dsimp only; omega) (.slice none 0 0)
              have OV := ((RIs.of ho6 (by omega)).setB (p := ⟨w.heap.size, 0, none⟩) (by dsimp only; omega) (.slice A1 N d1)).setB (p := ⟨w.heap.size, 1, none⟩) (by dsimp only; omega) (.slice none 0 0)
              clear hp2 hok h0
              go_wp2
              rw [HBB.out]
              refine bodyPost_ret (v := .tuple #[.agg #[.slice A1 N d1, .slice none 0 0], .bool true]) ?_ rfl ?_
              · simp [results, Tryz.results15, go_sem]
                go_simp
              · exact ⟨_, _, _, _, _, _, rfl, by rw [HN.out]; exact ⟨OU.wide (by omega) (by simp), OV.wide (by omega) (by simp)⟩, hBF⟩
          · have hpn : prsG s.data.toList = none := by rw [hp2, if_neg (fun h => hok h.1)]
            have hfs : (F == s.toList) = false := by rw [beq_eq_false_iff_ne, ByteArray.toList_eq]; exact hok
            have HN : RowKit.Hid (prsGr s.data.toList = ⟨[], []⟩) := Lib.hid (by unfold prsGr; rw [hpn]; rfl)
            have HBB : RowKit.Hid (prsGrB s.data.toList = false) := Lib.hid (by unfold prsGrB; rw [hpn]; rfl)
            have r0 := XR6.cell 0
            have r1 := XR6.cell 1
            have q0 := XR6.frozen 0
            have q1 := XR6.frozen 1
            have hBF := (hB6.setCell (p := ⟨w.heap.size, 0, none⟩) (Nat.le_refl _) (.slice none 0 0)).setCell (p := ⟨w.heap.size, 1, none⟩) (Nat.le_refl _) (.slice none 0 0)
            clear hpn hp2 hok
            go_wp2
            rw [HBB.out]
            refine bodyPost_ret (v := .tuple #[.agg #[.slice none 0 0, .slice none 0 0], .bool false]) ?_ rfl ?_
            · simp [results, Tryz.results15, go_sem]
              go_simp
            · exact ⟨none, 0, 0, none, 0, 0, rfl, by rw [HN.out]; exact GIs.wide ⟨RIs.of (World.ownsRow_nil _ w.heap.size _ _) (by omega), RIs.of (World.ownsRow_nil _ w.heap.size _ _) (by omega)⟩ (Nat.le_refl _) (by simp), hBF⟩
      · have hcm : ¬ m + 1 = 1 := by omega
        go_wp2
        go_loopw [37] (fun i wr => ∃ (k : Nat) (z : KeptB w3 g) (v : Value) (L : List E), wr = z.W ∧ k ≤ m ∧ i = .int .i64 k ∧ Blk z.W g 27 #[.slice A1 N d1, v] ∧ z.W.ownsRow w3.heap.size 29 4 v k (ecs L) ∧ prsEs (R.take k) = some L) (fun i _ => m - (intOf i).toNat)
        case atStart => exact ⟨0, y3, _, [], rfl, Nat.zero_le _, rfl, XG3, World.ownsRow_nil _ _ _ _, rfl⟩
        case round =>
          clear XG3
          obtain ⟨k, z, v, L, rfl, hk, rfl, XG, hown, hL⟩ := hrel
          have HL := Lib.hid hL
          have hzs := z.be.size
          obtain ⟨A2, d2, rfl, _⟩ := own_form hown
          have XRz := XR3.tch z.be (.inl (by omega))
          have hBz := below_tch hB3 z.be (by omega)
          clear hL
          by_cases hlt : k < m
          · obtain ⟨p, hp⟩ : ∃ p, R[k]? = some p := ⟨_, List.getElem?_eq_getElem (by have := HLN.out; omega)⟩
            have hpS := HPL.out p (List.mem_cons_of_mem _ (List.mem_of_getElem? hp))
            have hc0 := hcells3 (k + 1) p (by simpa using hp)
            have hc4 : ∀ z : KeptB w3 g, z.W.cell? ⟨b, o + 1 + k, none⟩ = some (.string ⟨p.toArray⟩) := fun z => by
              rw [Nat.add_assoc, Nat.add_comm 1 k]
              exact KeptB.cell hc0 (by dsimp only; omega) z
            have hlt' : (k : Int) < m := by omega
            have hk0 : (0 : Int) ≤ (k : Int) := by omega
            have q3 : Small (k + 1) := small_of (by omega)
            obtain ⟨x, hx⟩ : ∃ x, prsEN p = x := ⟨_, rfl⟩
            obtain ⟨ok, hok⟩ : ∃ ok, prsEB p = ok := ⟨_, rfl⟩
            have HPE : RowKit.Hid (∀ z : KeptB w3 g, Calls Tryz.prog 18 #[.string ⟨p.toArray⟩] z.W fun e w' => e = .returned (.tuple #[.agg #[.int .i64 x.id, .int .i64 x.fr, .int .i64 x.to, .int .i64 x.lb], .bool ok]) ∧ Below z.W.heap.size z.W w') := Lib.hid (fun z => by
              have := implParseEdge_any z.W (HKP2.out z) (HKE2.out z) (HKM2.out z) ⟨p.toArray⟩ (by rw [mk_sz]; omega)
              rw [show ((⟨p.toArray⟩ : ByteArray).data.toList) = p from rfl, hx, hok] at this
              exact this)
            have HPC : RowKit.Hid (ok = true → prsE p = some x) := Lib.hid (fun h => by
              unfold prsEB at hok
              unfold prsEN at hx
              rw [h] at hok
              obtain ⟨y, hy⟩ := Option.isSome_iff_exists.1 hok
              rw [hy] at hx
              have hyx : y = x := hx
              rw [hy, hyx])
            have HPN : RowKit.Hid (ok = false → prsE p = none) := Lib.hid (fun h => by
              unfold prsEB at hok
              rw [h] at hok
              rwa [Option.isSome_eq_false_iff, Option.isNone_iff_eq_none] at hok)
            have HPP := Lib.hid hp
            clear hp hc0 hx hok hpS
            go_wp2_with fail
            with_reducible refine (HPE.out z).mono ?_
            rintro e w4 ⟨rfl, hb4⟩
            have XGb := XG.below hb4 XG.lt
            have hob := own_below hown hb4 (Nat.le_refl _)
            have XRb := XRz.below hb4 XRz.lt
            have hBb := below_then hBz hb4
            obtain ⟨z4, rfl⟩ := z.of hb4
            have hA5 : Below z4.W.heap.size z4.W (z4.W.alloc (.cells #[.int .i64 x.id, .int .i64 x.fr, .int .i64 x.to, .int .i64 x.lb] 29)) := (Below.refl _ _).alloc (Nat.le_refl _) _
            have XE := Blk.new z4.W 29 #[.int .i64 x.id, .int .i64 x.fr, .int .i64 x.to, .int .i64 x.lb]
            have XG5 := XGb.below hA5 XGb.lt
            have XR5 := XRb.below hA5 XRb.lt
            have ho5 := own_below hob hA5 (Nat.le_refl _)
            have hB5 := below_then hBb hA5
            obtain ⟨z5, hz5⟩ := z4.of hA5
            rw [hz5] at XE XG5 XR5 ho5 hB5
            clear hb4 XGb hob XRb hBb hA5 XG hown XRz hBz
            cases ok
            · have hpn : prsG s.data.toList = none := by rw [HP2.out, prsEs_no HPP.out (HPN.out rfl)]
              have HN : RowKit.Hid (prsGr s.data.toList = ⟨[], []⟩) := Lib.hid (by unfold prsGr; rw [hpn]; rfl)
              have HBB : RowKit.Hid (prsGrB s.data.toList = false) := Lib.hid (by unfold prsGrB; rw [hpn]; rfl)
              have r0 := XR5.cell 0
              have r1 := XR5.cell 1
              have q0 := XR5.frozen 0
              have q1 := XR5.frozen 1
              have hBF := (hB5.setCell (p := ⟨w.heap.size, 0, none⟩) (Nat.le_refl _) (.slice none 0 0)).setCell (p := ⟨w.heap.size, 1, none⟩) (Nat.le_refl _) (.slice none 0 0)
              clear hpn
              go_wp2
              rw [HBB.out]
              refine bodyPost_ret (v := .tuple #[.agg #[.slice none 0 0, .slice none 0 0], .bool false]) ?_ rfl ?_
              · simp [results, Tryz.results15, go_sem]
                go_simp
              · exact ⟨none, 0, 0, none, 0, 0, rfl, by rw [HN.out]; exact GIs.wide ⟨RIs.of (World.ownsRow_nil _ w.heap.size _ _) (by omega), RIs.of (World.ownsRow_nil _ w.heap.size _ _) (by omega)⟩ (Nat.le_refl _) (by simp), hBF⟩
            · have HM := Lib.hid (prsEs_more HPP.out HL.out (HPC.out rfl))
              have hA8 : Below z5.W.heap.size z5.W (z5.W.alloc (.cells #[.int .i64 x.id, .int .i64 x.fr, .int .i64 x.to, .int .i64 x.lb] 29)) := (Below.refl _ _).alloc (Nat.le_refl _) _
              have XG8 := XG5.below hA8 XG5.lt
              have ho8 := own_below ho5 hA8 (Nat.le_refl _)
              have hrn := reads_new (w := z5.W) (e := 29) (size := 4) (m := 1) #[.int .i64 x.id, .int .i64 x.fr, .int .i64 x.to, .int .i64 x.lb] rfl
              have g5 := XG5.cell 1
              have e0 := XE.cell 0
              have e1 := XE.cell 1
              have e2 := XE.cell 2
              have e3 := XE.cell 3
              obtain ⟨z8, hz8⟩ := z5.of hA8
              rw [hz8] at XG8 ho8 hrn
              have hle8 := z8.be.size
              have h1c : ∀ u ∈ (#[.int .i64 x.id, .int .i64 x.fr, .int .i64 x.to, .int .i64 x.lb] : Array Value).toList, u.oneCell' = true := by
                intro u hu
                simp at hu
                rcases hu with rfl | rfl | rfl | rfl <;> rfl
              clear XG5 XE ho5 XR5 hB5 hA8
              go_wp2_with (at_builtin; refine ap_plain _ app_edge (by decide) w3.heap.size (.tmp 50) (.tmp 52) rfl rfl _ _ _ rfl ho8 _ _ 1 1 _ rfl hrn h1c q3 hle8 ?_; intro v9 w9 hown9 hg9 hat9; obtain ⟨A9, d9, rfl, _⟩ := own_form hown9; have XG9 := XG8.grown hg9 (fun hq => by have := (ownBlock_some ho8 hq.symm).1; omega); obtain ⟨z9, rfl⟩ := KeptB.grown_ z8 ho8 (Nat.le_refl _) hg9; have g9c := XG9.cell 1; have g9f := XG9.frozen 1; have hown10 := ownsRow_setCell_below hown9 (a := ⟨g, 1, none⟩) hg3 (.slice A9 (k + 1) d9); have XG10 := XG9.set_ 1 (.slice A9 (k + 1) d9); obtain ⟨z10, hz10⟩ := KeptB.set z9 hg3 1 (.slice A9 (k + 1) d9); rw [hz10] at hown10 XG10; clear hg9 hat9 hown9 XG9)
              go_roundw
              case rel => exact ⟨k + 1, z10, _, L ++ [x], rfl, by omega, by go_num, XG10, by rw [ecs_append]; exact hown10, HM.out⟩
              case measure => simp [intOf]; omega
          · obtain rfl : m = k := by omega
            have hlt' : ¬ (m : Int) < m := by omega
            have hLC := HL.out
            rw [List.take_of_length_le (by have := HLN.out; omega)] at hLC
            have hp2 := HP2.out
            rw [hLC] at hp2
            simp only at hp2
            have hll : L.length = m := (prsEs_len hLC).1.trans HLN.out
            have hu := HU.out z
            have x0 := XG.cell 0
            have x1 := XG.cell 1
            have hF := implFormatGraph_is z.W (c := d1) (d := d2) (g := ⟨vs, L⟩) ⟨⟨HVL.out, hll, Reads.of_own hu, Reads.of_own hown⟩, by omega, by omega⟩ (HKP2.out z)
            obtain ⟨F, hFe⟩ : ∃ F, fmtG ⟨vs, L⟩ = F := ⟨_, rfl⟩
            rw [hFe] at hF hp2
            have HF := Lib.hid hF
            clear hF hFe hll hLC
            go_wp2_with fail
            with_reducible refine HF.out.mono ?_
            rintro e w6 ⟨rfl, hb6⟩
            have XR6 := XRz.below hb6 XRz.lt
            have XG6 := XG.below hb6 XG.lt
            have ho6 := own_below hown hb6 (Nat.le_refl _)
            have hu6 := own_below hu hb6 (Nat.le_refl _)
            have hB6 := below_then hBz hb6
            have d0_ := XG6.cell 0
            have d1_ := XG6.cell 1
            have hw6 : w.heap.size ≤ w2.heap.size := by omega
            have hw7 : w.heap.size ≤ w3.heap.size := by omega
            clear x0 x1 XG XRz hBz hb6 hown hu HF XG6
            by_cases hok : F = s.data.toList
            · have hfs : (F == s.toList) = true := by rw [beq_iff_eq, ByteArray.toList_eq]; exact hok
              by_cases h0 : s.data.toList = []
              · have hpn : prsG s.data.toList = none := by rw [hp2, if_neg (fun h => h.2 h0)]
                have hs0 : (s.toList == ([] : List UInt8)) = true := by rw [beq_iff_eq, ByteArray.toList_eq]; exact h0
                have HN : RowKit.Hid (prsGr s.data.toList = ⟨[], []⟩) := Lib.hid (by unfold prsGr; rw [hpn]; rfl)
                have HBB : RowKit.Hid (prsGrB s.data.toList = false) := Lib.hid (by unfold prsGrB; rw [hpn]; rfl)
                have r0 := XR6.cell 0
                have r1 := XR6.cell 1
                have q0 := XR6.frozen 0
                have q1 := XR6.frozen 1
                have hBF := (hB6.setCell (p := ⟨w.heap.size, 0, none⟩) (Nat.le_refl _) (.slice none 0 0)).setCell (p := ⟨w.heap.size, 1, none⟩) (Nat.le_refl _) (.slice none 0 0)
                clear hpn hp2 hok h0
                go_wp2
                rw [HBB.out]
                refine bodyPost_ret (v := .tuple #[.agg #[.slice none 0 0, .slice none 0 0], .bool false]) ?_ rfl ?_
                · simp [results, Tryz.results15, go_sem]
                  go_simp
                · exact ⟨none, 0, 0, none, 0, 0, rfl, by rw [HN.out]; exact GIs.wide ⟨RIs.of (World.ownsRow_nil _ w.heap.size _ _) (by omega), RIs.of (World.ownsRow_nil _ w.heap.size _ _) (by omega)⟩ (Nat.le_refl _) (by simp), hBF⟩
              · rw [if_pos ⟨hok, h0⟩] at hp2
                have hs0 : (s.toList == ([] : List UInt8)) = false := by rw [beq_eq_false_iff_ne, ByteArray.toList_eq]; exact h0
                have r0 := XR6.cell 0
                have r1 := XR6.cell 1
                have q0 := XR6.frozen 0
                have q1 := XR6.frozen 1
                have HN : RowKit.Hid (prsGr s.data.toList = ⟨vs, L⟩) := Lib.hid (by unfold prsGr; rw [hp2]; rfl)
                have HBB : RowKit.Hid (prsGrB s.data.toList = true) := Lib.hid (by unfold prsGrB; rw [hp2]; rfl)
                have hBF := (hB6.setCell (p := ⟨w.heap.size, 0, none⟩) (Nat.le_refl _) (.slice A1 N d1)).setCell (p := ⟨w.heap.size, 1, none⟩) (Nat.le_refl _) (.slice A2 m d2)
                have OU := ((RIs.of hu6 (by omega)).setB (p := ⟨w.heap.size, 0, none⟩) (by dsimp only; omega) (.slice A1 N d1)).setB (p := ⟨w.heap.size, 1, none⟩) (by dsimp only; omega) (.slice A2 m d2)
                have OV := ((RIs.of ho6 (by omega)).setB (p := ⟨w.heap.size, 0, none⟩) (by dsimp only; omega) (.slice A1 N d1)).setB (p := ⟨w.heap.size, 1, none⟩) (by dsimp only; omega) (.slice A2 m d2)
                clear hp2 hok h0
                go_wp2
                rw [HBB.out]
                refine bodyPost_ret (v := .tuple #[.agg #[.slice A1 N d1, .slice A2 m d2], .bool true]) ?_ rfl ?_
                · simp [results, Tryz.results15, go_sem]
                  go_simp
                · exact ⟨_, _, _, _, _, _, rfl, by rw [HN.out]; exact ⟨OU.wide (by omega) (by simp), OV.wide (by omega) (by simp)⟩, hBF⟩
            · have hpn : prsG s.data.toList = none := by rw [hp2, if_neg (fun h => hok h.1)]
              have hfs : (F == s.toList) = false := by rw [beq_eq_false_iff_ne, ByteArray.toList_eq]; exact hok
              have HN : RowKit.Hid (prsGr s.data.toList = ⟨[], []⟩) := Lib.hid (by unfold prsGr; rw [hpn]; rfl)
              have HBB : RowKit.Hid (prsGrB s.data.toList = false) := Lib.hid (by unfold prsGrB; rw [hpn]; rfl)
              have r0 := XR6.cell 0
              have r1 := XR6.cell 1
              have q0 := XR6.frozen 0
              have q1 := XR6.frozen 1
              have hBF := (hB6.setCell (p := ⟨w.heap.size, 0, none⟩) (Nat.le_refl _) (.slice none 0 0)).setCell (p := ⟨w.heap.size, 1, none⟩) (Nat.le_refl _) (.slice none 0 0)
              clear hpn hp2 hok
              go_wp2
              rw [HBB.out]
              refine bodyPost_ret (v := .tuple #[.agg #[.slice none 0 0, .slice none 0 0], .bool false]) ?_ rfl ?_
              · simp [results, Tryz.results15, go_sem]
                go_simp
              · exact ⟨none, 0, 0, none, 0, 0, rfl, by rw [HN.out]; exact GIs.wide ⟨RIs.of (World.ownsRow_nil _ w.heap.size _ _) (by omega), RIs.of (World.ownsRow_nil _ w.heap.size _ _) (by omega)⟩ (Nat.le_refl _) (by simp), hBF⟩
end Go.Proofs.YtljggmgijadjaaaGreatDoor
