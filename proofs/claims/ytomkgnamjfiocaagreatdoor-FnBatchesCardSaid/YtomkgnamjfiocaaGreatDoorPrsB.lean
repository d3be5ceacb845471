/- ParseBatch of both packages. -/
import Derived.Test.YtomkgnamjfiocaaGreatDoorPrsWk
import Derived.Test.YtomkgnamjfiocaaGreatDoorFmtB
namespace Go.Proofs.YtomkgnamjfiocaaGreatDoor
open Go.RowKit Go.ChangeShapes Go.WideShapes Go.ChangeAt Go.Deep
set_option linter.unusedVariables false
def prsBa (l : List UInt8) : List Cg := (prsBt l).getD []
def prsBaB (l : List UInt8) : Bool := (prsBt l).isSome
theorem prsBt_if {l : List UInt8} (h : l ≠ []) : prsBt l = match prsCs (cutL 32 l) with
  | some cs => if fmtBt cs = l then some cs else none
  | none => none := by
  unfold prsBt
  rw [if_neg h]
  cases prsCs (cutL 32 l) <;> rfl
theorem take_cons_drop {α : Type} {l : List α} {k : Nat} {p : α} (h : l[k]? = some p) : l = l.take k ++ p :: l.drop (k + 1) := by
  obtain ⟨hk, rfl⟩ := List.getElem?_eq_some_iff.1 h
  rw [← List.drop_eq_getElem_cons hk, List.take_append_drop]
theorem prsCs_no {l : List (List UInt8)} {k : Nat} {p : List UInt8} (h : l[k]? = some p) (hp : prsC p = none) : prsCs l = none := by
  rw [take_cons_drop h]
  exact prsCs_bad _ _ _ hp
theorem prsCs_more {l : List (List UInt8)} {k : Nat} {p : List UInt8} {L : List Cg} {x : Cg} (h : l[k]? = some p) (hL : prsCs (l.take k) = some L) (hp : prsC p = some x) : prsCs (l.take (k + 1)) = some (L ++ [x]) := by
  rw [List.take_add_one, h]
  simp only [Option.toList_some]
  rw [prsCs_snoc _ L p hL, hp]
  rfl
theorem TabM.tch {w w' : World} {lo hi : Nat} (h : TabM w) (t : Tch lo hi w w') (hl : 0 < lo) : TabM w' := by
  have hl2 := h.lt
  obtain ⟨m, h⟩ := h.t
  exact ⟨m, (World.cell?_of_block (t.block _ hl2 (.inl hl))).trans h⟩
theorem crd_own {w : World} {base : Nat} {A : Option Addr} {n c : Nat} {l : List Cg} (h : w.ownsRow base 92 5 (.slice A n c) n (cgcs l)) (hn : n ≤ 2000000) : CRd w A n l :=
  ⟨by have := h.1; rw [cgcs_len] at this; omega, Reads.of_own h, hn⟩
set_option maxRecDepth 4000 in
set_option maxHeartbeats 8000000 in
theorem implParseBatch_is (w : World) (s : ByteArray) (TP : TabP w) (TE : TabE w) (TM : TabM w) (hs : s.size ≤ 1048576) :
    Calls Tryz.prog 36 #[.string s] w fun e w' => ∃ A n c, e = .returned (.tuple #[.agg #[.slice A n c], .bool (prsBaB s.data.toList)]) ∧ RIs w' w.heap.size w'.heap.size 92 5 A n c (cgcs (prsBa s.data.toList)) ∧ Below w.heap.size w w' := by
  have hbR : Below w.heap.size w (w.alloc (.cells #[.slice none 0 0] 47)) := (Below.refl _ _).alloc (Nat.le_refl _) _
  have hbG : Below w.heap.size w ((w.alloc (.cells #[.slice none 0 0] 47)).alloc (.cells #[.slice none 0 0] 47)) := hbR.alloc hbR.size _
  have XR := (Blk.new w 47 #[.slice none 0 0]).alloc (.cells #[.slice none 0 0] 47)
  have XG := Blk.new (w.alloc (.cells #[.slice none 0 0] 47)) 47 #[.slice none 0 0]
  have hgs : (w.alloc (.cells #[.slice none 0 0] 47)).heap.size = w.heap.size + 1 := by simp
  rw [hgs] at XG
  by_cases h0 : s.data.toList = []
  · have hp2 : prsBt s.data.toList = some [] := by unfold prsBt; rw [if_pos h0]
    have HN : RowKit.Hid (prsBa s.data.toList = []) := Lib.hid (by unfold prsBa; rw [hp2]; rfl)
    have HBB : RowKit.Hid (prsBaB s.data.toList = true) := Lib.hid (by unfold prsBaB; rw [hp2]; rfl)
    have hs0 : s.toList = [] := by rw [ByteArray.toList_eq]; exact h0
    have r0 := XR.cell 0
    have q0 := XR.frozen 0
    have d0 := XG.cell 0
    have hBF := hbG.setCell (p := ⟨w.heap.size, 0, none⟩) (Nat.le_refl _) (.slice none 0 0)
    clear h0 hp2
    go_enter Tryz.func36, Tryz.ntmps36
    go_wp2
    rw [HBB.out]
    refine bodyPost_ret (v := .tuple #[.agg #[.slice none 0 0], .bool true]) ?_ rfl ?_
    · simp [results, Tryz.results36, go_sem]
    · exact ⟨none, 0, 0, rfl, by rw [HN.out]; exact (RIs.of (World.ownsRow_nil _ w.heap.size _ _) (by omega)).wide (Nat.le_refl _) (by simp), hbG⟩
  · have hs0 : (s.toList == ([] : List UInt8)) = false := by rw [beq_eq_false_iff_ne, ByteArray.toList_eq]; exact h0
    have HP := Lib.hid (prsBt_if h0)
    obtain ⟨C, hC⟩ : ∃ C, cutL 32 s.data.toList = C := ⟨_, rfl⟩
    have HC := Lib.hid hC
    have hpl : ∀ p ∈ C, p.length ≤ s.size := fun p hp => by rw [Lib.size_eq]; exact piece_len (by rw [hC]; exact hp)
    have HPL := Lib.hid hpl
    have hn0' : C ≠ [] := by rw [← hC]; exact cutL_ne _ _
    generalize hw0 : (w.alloc (.cells #[.slice none 0 0] 47)).alloc (.cells #[.slice none 0 0] 47) = w0 at *
    have hcut := split_lo w0 (TM.up hbG) 32 s hs
    rw [hC] at hcut
    have HCUT := Lib.hid hcut
    have HW0 := Lib.hid hw0
    clear hcut hC hpl h0 hw0
    go_enter Tryz.func36, Tryz.ntmps36
    go_wp2_with fail
    rw [HW0.out]
    refine HCUT.out.mono ?_
    rintro e w1 ⟨A, n, c, rfl, TR, hb1, hlo⟩
    have HLN := Lib.hid TR.ln
    have hnb := TR.bd
    have hnp : 0 < n := by
      rcases Nat.eq_zero_or_pos n with rfl | h
      · exact absurd (List.eq_nil_of_length_eq_zero TR.ln) hn0'
      · exact h
    obtain ⟨b, o, rfl, hbl, hcells⟩ := TR.cells hnp
    have XR1 := XR.below hb1 XR.lt
    have XG1 := XG.below hb1 XG.lt
    have hB1 := below_then hbG hb1
    have hrg : w.heap.size < w.heap.size + 1 := by omega
    have hgl : w.heap.size + 1 < w1.heap.size := XG1.lt
    have ltP := TP.lt
    have ltE := TE.lt
    have ltM := TM.lt
    have hbo : w.heap.size + 1 < b := by
      have h1 := hlo _ rfl
      have h2 := XG.lt
      dsimp only at h1
      omega
    generalize hgg : w.heap.size + 1 = g at *
    have TP4 := TP.up hB1
    have TE4 := TE.up hB1
    have HKP : RowKit.Hid (∀ z : KeptB w1 g, TabP z.W) := Lib.hid (fun z => TP4.tch z.be (by omega))
    have HKE : RowKit.Hid (∀ z : KeptB w1 g, TabE z.W) := Lib.hid (fun z => TE4.tch z.be (by omega))
    have HKM : RowKit.Hid (∀ z : KeptB w1 g, TabM z.W) := Lib.hid (fun z => (TM.up hB1).tch z.be (by omega))
    obtain ⟨y1, hy1⟩ : ∃ y : KeptB w1 g, w1 = y.W := ⟨⟨w1, Tch.refl _ _ _⟩, rfl⟩
    have XG2 : Blk y1.W g 47 #[.slice none 0 0] := by rw [← hy1]; exact XG1
    rw [hy1]
    clear hy1 TR hb1 XR XG XG1 hbG HCUT TP4 TE4 ltP ltE ltM hgs
    go_wp2
    go_loopw [16] (fun i wr => ∃ (k : Nat) (z : KeptB w1 g) (v : Value) (L : List Cg), wr = z.W ∧ k ≤ n ∧ i = .int .i64 k ∧ Blk z.W g 47 #[v] ∧ z.W.ownsRow w1.heap.size 92 5 v k (cgcs L) ∧ prsCs (C.take k) = some L) (fun i _ => n - (intOf i).toNat)
    case atStart => exact ⟨0, y1, _, [], rfl, Nat.zero_le _, rfl, XG2, World.ownsRow_nil _ _ _ _, rfl⟩
    case round =>
      clear XG2
      obtain ⟨k, z, v, L, rfl, hk, rfl, XG, hown, hL⟩ := hrel
      have HL := Lib.hid hL
      have hzs := z.be.size
      obtain ⟨A1, d1, rfl, _⟩ := own_form hown
      have XRz := XR1.tch z.be (.inl (by omega))
      have hBz := below_tch hB1 z.be (by omega)
      clear hL
      by_cases hlt : k < n
      · obtain ⟨p, hp⟩ : ∃ p, C[k]? = some p := ⟨_, List.getElem?_eq_getElem (by have := HLN.out; omega)⟩
        have hpS := HPL.out p (List.mem_of_getElem? hp)
        have hc0 := hcells k p hp
        have hc1 : ∀ z : KeptB w1 g, z.W.cell? ⟨b, o + k, none⟩ = some (.string ⟨p.toArray⟩) := fun z => KeptB.cell hc0 (by dsimp only; omega) z
        have hlt' : (k : Int) < n := by omega
        have hk0 : (0 : Int) ≤ (k : Int) := by omega
        have q3 : Small (k + 1) := small_of (by omega)
        cases p with
        | nil =>
          have hpn : prsBt s.data.toList = none := by rw [HP.out, HC.out, prsCs_no hp rfl]
          have HN : RowKit.Hid (prsBa s.data.toList = []) := Lib.hid (by unfold prsBa; rw [hpn]; rfl)
          have HBB : RowKit.Hid (prsBaB s.data.toList = false) := Lib.hid (by unfold prsBaB; rw [hpn]; rfl)
          have r0 := XRz.cell 0
          have q0 := XRz.frozen 0
          have hBF := hBz.setCell (p := ⟨w.heap.size, 0, none⟩) (Nat.le_refl _) (.slice none 0 0)
          clear hpn hp hc0
          go_wp2
          rw [HBB.out]
          refine bodyPost_ret (v := .tuple #[.agg #[.slice none 0 0], .bool false]) ?_ rfl ?_
          · simp [results, Tryz.results36, go_sem]
            go_simp
          · exact ⟨none, 0, 0, rfl, by rw [HN.out]; exact (RIs.of (World.ownsRow_nil _ w.heap.size _ _) (by omega)).wide (Nat.le_refl _) (by simp), hBF⟩
        | cons c r =>
          obtain ⟨S, hS⟩ : ∃ S : ByteArray, (⟨(c :: r).toArray⟩ : ByteArray) = S := ⟨_, rfl⟩
          have hSz : S.size = r.length + 1 := by rw [← hS, mk_sz]; simp
          have hSc : S[0]'(by omega) = c := by subst hS; rfl
          have hSx : S.extract 1 (r.length + 1) = ⟨r.toArray⟩ := ext_piece S 1 (r.length + 1) r (by rw [← hS]; simp)
          have hSe : (S.toList == ([] : List UInt8)) = false := by rw [beq_eq_false_iff_ne, ByteArray.toList_eq, ← hS]; simp
          have hSI : (1 : Int) ≤ (r.length : Int) + 1 := by omega
          have hrS : r.length ≤ 1048576 := by simp at hpS; omega
          rw [hS] at hc1
          obtain ⟨x, hx⟩ : ∃ x, prsEN r = x := ⟨_, rfl⟩
          obtain ⟨ok, hok⟩ : ∃ ok, prsEB r = ok := ⟨_, rfl⟩
          have HPE : RowKit.Hid (∀ z : KeptB w1 g, Calls Tryz.prog 82 #[.string ⟨r.toArray⟩] z.W fun e w' => e = .returned (.tuple #[.agg #[.int .i64 x.id, .int .i64 x.fr, .int .i64 x.to, .int .i64 x.lb], .bool ok]) ∧ Below z.W.heap.size z.W w') := Lib.hid (fun z => by
            have := implParseEdge_any z.W (HKP.out z) (HKE.out z) (HKM.out z) ⟨r.toArray⟩ (by rw [mk_sz]; exact hrS)
            rw [show ((⟨r.toArray⟩ : ByteArray).data.toList) = r from rfl, hx, hok] at this
            exact this)
          obtain ⟨ins, hins⟩ : ∃ ins, (c == 43) = ins := ⟨_, rfl⟩
          have hci : ((c.toNat : Int) == 43) = ins := by
            rw [← hins, Bool.eq_iff_iff, beq_iff_eq, beq_iff_eq]
            constructor
            · intro e; exact UInt8.toNat_inj.1 (by simpa using (show c.toNat = 43 by omega))
            · rintro rfl; rfl
          have HPC : RowKit.Hid (ok = true → prsC (c :: r) = some ⟨ins, x⟩) := Lib.hid (fun h => by
            show Option.map (fun e => (⟨c == 43, e⟩ : Cg)) (prsE r) = _
            unfold prsEB at hok
            unfold prsEN at hx
            rw [h] at hok
            obtain ⟨y, hy⟩ := Option.isSome_iff_exists.1 hok
            rw [hy] at hx
            have hyx : y = x := hx
            rw [hy, hins, hyx]
            rfl)
          have HPN : RowKit.Hid (ok = false → prsC (c :: r) = none) := Lib.hid (fun h => by
            show Option.map (fun e => (⟨c == 43, e⟩ : Cg)) (prsE r) = _
            unfold prsEB at hok
            rw [h] at hok
            rw [Option.isSome_eq_false_iff, Option.isNone_iff_eq_none] at hok
            rw [hok]
            rfl)
          have HPP := Lib.hid hp
          clear hp hc0 hx hok hins hS hpS
          go_wp2_with fail
          refine (HPE.out z).mono ?_
          rintro e w2 ⟨rfl, hb2⟩
          have XGb := XG.below hb2 XG.lt
          have hob := own_below hown hb2 (Nat.le_refl _)
          have XRb := XRz.below hb2 XRz.lt
          have hBb := below_then hBz hb2
          obtain ⟨z2, rfl⟩ := z.of hb2
          have hA3 : Below z2.W.heap.size z2.W (z2.W.alloc (.cells #[.int .i64 x.id, .int .i64 x.fr, .int .i64 x.to, .int .i64 x.lb] 90)) := (Below.refl _ _).alloc (Nat.le_refl _) _
          have XE := Blk.new z2.W 90 #[.int .i64 x.id, .int .i64 x.fr, .int .i64 x.to, .int .i64 x.lb]
          have XG3 := XGb.below hA3 XGb.lt
          have XR3 := XRb.below hA3 XRb.lt
          have ho3 := own_below hob hA3 (Nat.le_refl _)
          have hB3 := below_then hBb hA3
          obtain ⟨z3, hz3⟩ := z2.of hA3
          rw [hz3] at XE XG3 XR3 ho3 hB3
          clear hb2 XGb hob XRb hBb hA3 XG hown XRz hBz
          cases ok
          · have hpn : prsBt s.data.toList = none := by rw [HP.out, HC.out, prsCs_no HPP.out (HPN.out rfl)]
            have HN : RowKit.Hid (prsBa s.data.toList = []) := Lib.hid (by unfold prsBa; rw [hpn]; rfl)
            have HBB : RowKit.Hid (prsBaB s.data.toList = false) := Lib.hid (by unfold prsBaB; rw [hpn]; rfl)
            have r0 := XR3.cell 0
            have q0 := XR3.frozen 0
            have hBF := hB3.setCell (p := ⟨w.heap.size, 0, none⟩) (Nat.le_refl _) (.slice none 0 0)
            clear hpn
            go_wp2
            rw [HBB.out]
            refine bodyPost_ret (v := .tuple #[.agg #[.slice none 0 0], .bool false]) ?_ rfl ?_
            · simp [results, Tryz.results36, go_sem]
              go_simp
            · exact ⟨none, 0, 0, rfl, by rw [HN.out]; exact (RIs.of (World.ownsRow_nil _ w.heap.size _ _) (by omega)).wide (Nat.le_refl _) (by simp), hBF⟩
          · have HM := Lib.hid (prsCs_more HPP.out HL.out (HPC.out rfl))
            obtain ⟨zD, hzD⟩ := z3.of ((Below.refl z3.W.heap.size z3.W).drew)
            have XGD := XG3.drew
            have XED := XE.drew
            have hoD := own_drew ho3
            rw [hzD] at XGD XED hoD
            have hA8 : Below zD.W.heap.size zD.W (zD.W.alloc (.cells #[.bool ins, .int .i64 x.id, .int .i64 x.fr, .int .i64 x.to, .int .i64 x.lb] 92)) := (Below.refl _ _).alloc (Nat.le_refl _) _
            have XG8 := XGD.below hA8 XGD.lt
            have XE8 := XED.below hA8 XED.lt
            have ho8 := own_below hoD hA8 (Nat.le_refl _)
            have hrn := reads_new (w := zD.W) (e := 92) (size := 5) (m := 1) #[.bool ins, .int .i64 x.id, .int .i64 x.fr, .int .i64 x.to, .int .i64 x.lb] rfl
            obtain ⟨z8, hz8⟩ := zD.of hA8
            rw [hz8] at XG8 XE8 ho8 hrn
            have hle8 := z8.be.size
            have h1c : ∀ u ∈ (#[.bool ins, .int .i64 x.id, .int .i64 x.fr, .int .i64 x.to, .int .i64 x.lb] : Array Value).toList, u.oneCell' = true := by
              intro u hu
              simp at hu
              rcases hu with rfl | rfl | rfl | rfl | rfl <;> rfl
            have gD := XGD.cell 0
            have eD0 := XED.cell 0
            have eD1 := XED.cell 1
            have eD2 := XED.cell 2
            have eD3 := XED.cell 3
            have g8 := XG8.cell 0
            have e80 := XE8.cell 0
            have e81 := XE8.cell 1
            have e82 := XE8.cell 2
            have e83 := XE8.cell 3
            have hS0 : (0 : Int) < (r.length : Int) + 1 := by omega
            clear XG3 XE ho3 XR3 hB3 hA8 XGD hoD
            go_wp2_with fail
            go_region_law (first
              | (refine ap_step _ app_change (by decide) w1.heap.size (.tmp 33) (.tmp 39) rfl rfl _ _ _ rfl ho8 _ _ 1 1 _ rfl hrn h1c q3 hle8 ?_; intro v9 w9 hown9 hg9 hat9; obtain ⟨A9, d9, rfl, _⟩ := own_form hown9; have XG9 := XG8.grown hg9 (fun hq => by have := (ownBlock_some ho8 hq.symm).1; omega); obtain ⟨z9, rfl⟩ := KeptB.grown_ z8 ho8 (Nat.le_refl _) hg9; have g9c := XG9.cell 0; have g9f := XG9.frozen 0; have hown10 := ownsRow_setCell_below hown9 (a := ⟨g, 0, none⟩) hgl (.slice A9 (k + 1) d9); have XG10 := XG9.set_ 0 (.slice A9 (k + 1) d9); obtain ⟨z10, hz10⟩ := KeptB.set z9 hgl 0 (.slice A9 (k + 1) d9); rw [hz10] at hown10 XG10; clear hg9 hat9 hown9 XG9))
            all_goals
              go_wp2
              go_roundw
              case rel => exact ⟨k + 1, z10, _, L ++ [⟨ins, x⟩], rfl, by omega, by go_num, XG10, by rw [cgcs_append]; exact hown10, HM.out⟩
              case measure => simp [intOf]; omega
      · obtain rfl : k = n := by omega
        have hlt' : ¬ (k : Int) < k := by omega
        have hLC := HL.out
        rw [List.take_of_length_le (by have := HLN.out; omega)] at hLC
        have x0 := XG.cell 0
        have hF := implFormatBatch_is z.W (c := d1) (crd_own hown (by omega)) (HKP.out z)
        obtain ⟨F, hFe⟩ : ∃ F, fmtBt L = F := ⟨_, rfl⟩
        have hp2 := HP.out
        rw [HC.out, hLC] at hp2
        simp only at hp2
        rw [hFe] at hF hp2
        have HF := Lib.hid hF
        clear hF hFe hLC
        go_wp2_with fail
        refine HF.out.mono ?_
        rintro e w6 ⟨rfl, hb6⟩
        have XR6 := XRz.below hb6 XRz.lt
        have XG6 := XG.below hb6 XG.lt
        have ho6 := own_below hown hb6 (Nat.le_refl _)
        have hB6 := below_then hBz hb6
        have d0 := XG6.cell 0
        have r0 := XR6.cell 0
        have q0 := XR6.frozen 0
        clear x0 XG XRz hBz hb6 hown HF XG6
        by_cases hok : F = s.data.toList
        · rw [if_pos hok] at hp2
          have HN : RowKit.Hid (prsBa s.data.toList = L) := Lib.hid (by unfold prsBa; rw [hp2]; rfl)
          have HBB : RowKit.Hid (prsBaB s.data.toList = true) := Lib.hid (by unfold prsBaB; rw [hp2]; rfl)
          have hfs : (F == s.toList) = true := by rw [beq_iff_eq, ByteArray.toList_eq]; exact hok
          have hBF := hB6.setCell (p := ⟨w.heap.size, 0, none⟩) (Nat.le_refl _) (.slice A1 k d1)
          have OF := (RIs.of ho6 (by omega)).setB (p := ⟨w.heap.size, 0, none⟩) (by dsimp only; omega) (.slice A1 k d1)
          have hw6 : w.heap.size ≤ w1.heap.size := by omega
          clear hok hp2
          go_wp2
          rw [HBB.out]
          refine bodyPost_ret (v := .tuple #[.agg #[.slice A1 k d1], .bool true]) ?_ rfl ?_
          · simp [results, Tryz.results36, go_sem]
            go_simp
          · exact ⟨_, _, _, rfl, by rw [HN.out]; exact OF.wide (by omega) (by simp), hBF⟩
        · rw [if_neg hok] at hp2
          have hpn := hp2
          have HN : RowKit.Hid (prsBa s.data.toList = []) := Lib.hid (by unfold prsBa; rw [hpn]; rfl)
          have HBB : RowKit.Hid (prsBaB s.data.toList = false) := Lib.hid (by unfold prsBaB; rw [hpn]; rfl)
          have hfs : (F == s.toList) = false := by rw [beq_eq_false_iff_ne, ByteArray.toList_eq]; exact hok
          have hBF := hB6.setCell (p := ⟨w.heap.size, 0, none⟩) (Nat.le_refl _) (.slice none 0 0)
          clear hok hp2 hpn
          go_wp2
          rw [HBB.out]
          refine bodyPost_ret (v := .tuple #[.agg #[.slice none 0 0], .bool false]) ?_ rfl ?_
          · simp [results, Tryz.results36, go_sem]
            go_simp
          · exact ⟨none, 0, 0, rfl, by rw [HN.out]; exact (RIs.of (World.ownsRow_nil _ w.heap.size _ _) (by omega)).wide (Nat.le_refl _) (by simp), hBF⟩
theorem prsBt_ifS {l : List UInt8} (h : l ≠ []) : prsBt l = match prsCs ((cutL 32 l).take 7) with
  | some cs => if fmtBt cs = l then some cs else none
  | none => none := by
  rw [← prsBtS_eq]
  unfold prsBtS
  rw [if_neg h]
  cases prsCs ((cutL 32 l).take 7) <;> rfl
end Go.Proofs.YtomkgnamjfiocaaGreatDoor
