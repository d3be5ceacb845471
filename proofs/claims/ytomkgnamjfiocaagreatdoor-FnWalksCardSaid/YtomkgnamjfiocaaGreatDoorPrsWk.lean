/- ParseWalk of both packages. -/
import Derived.Test.YtomkgnamjfiocaaGreatDoorPrsE
import Derived.Test.YtomkgnamjfiocaaGreatDoorFmtWk
namespace Go.Proofs.YtomkgnamjfiocaaGreatDoor
open Go.RowKit Go.ChangeShapes Go.WideShapes Go.ChangeAt Go.Deep
set_option linter.unusedVariables false
theorem TRd.cells {w : World} {A : Option Addr} {n : Nat} {L : List (List UInt8)} (h : TRd w A n L) (hn : 0 < n) : ∃ b o, A = some ⟨b, o, none⟩ ∧ b < w.heap.size ∧ ∀ j s, L[j]? = some s → w.cell? ⟨b, o + j, none⟩ = some (.string ⟨s.toArray⟩) := by
  obtain ⟨b, o, s0, hA, hb, _, _⟩ := h.at_ (k := 0) hn
  refine ⟨b, o, hA, hb, fun j s hj => ?_⟩
  have hl := h.ln
  obtain ⟨b2, o2, s2, hA2, _, hs2, hc2⟩ := h.at_ (k := j) (by have := (List.getElem?_eq_some_iff.1 hj).1; omega)
  rw [hA] at hA2
  injection hA2 with hA2
  injection hA2 with e1 e2
  subst e1
  subst e2
  rw [hj] at hs2
  injection hs2 with hs2
  subst hs2
  exact hc2
theorem TabP.tch {w w' : World} {lo hi : Nat} (h : TabP w) (t : Tch lo hi w w') (hl : 3 < lo) : TabP w' := ⟨var_same gP h.t (t.block _ h.lt (.inl hl))⟩
theorem TabE.tch {w w' : World} {lo hi : Nat} (h : TabE w) (t : Tch lo hi w w') (hl : 1 < lo) : TabE w' := by
  have hl2 := h.lt
  obtain ⟨a, b, h⟩ := h.t
  exact ⟨a, b, var_same gE h (t.block _ hl2 (.inl hl))⟩
theorem KeptB.past {w : World} {xb q i : Nat} {u : Value} (x : KeptB w xb) (hq : w.heap.size ≤ q) : ∃ y : KeptB w xb, x.W.setCell ⟨q, i, none⟩ u = y.W :=
  ⟨⟨x.W.setCell ⟨q, i, none⟩ u, ⟨x.be.os, x.be.tape, x.be.output, by rw [World.size_setCell]; exact x.be.size, fun k hk hd => (Below.heap_setCell x.W ⟨q, i, none⟩ u k (by dsimp only; omega)).trans (x.be.block k hk hd)⟩⟩, rfl⟩
theorem KeptB.grown_ {w w' : World} {xb base n size : Nat} {e : TypeId} {v : Value} {xs : List Value} (z : KeptB w xb) (hown : z.W.ownsRow base e size v n xs) (hb : w.heap.size ≤ base) (hg : z.W.grownBy w' v.ownBlock) : ∃ y : KeptB w xb, w' = y.W :=
  ⟨⟨w', z.be.grown hown hb hg⟩, rfl⟩
def prsWk (l : List UInt8) : Wk := match prsW l with
  | some p => ⟨p.1, p.2⟩
  | none => ⟨0, []⟩
def prsWkB (l : List UInt8) : Bool := (prsW l).isSome
theorem stP_eq (p : List UInt8) : stP p = ⟨prsIN (Lib.trimSuffix p [45]), Lib.hasSuffix p [45]⟩ := by
  unfold stP
  rw [trim_one, suffix_one]
  unfold dashB prsIN
  cases hd : (p.getLast? == some 45) <;> simp
theorem trim_len (p : List UInt8) : (Lib.trimSuffix p [45]).length ≤ p.length := by
  rw [trim_one]
  split <;> simp
theorem own_snoc_sk {w : World} {base n : Nat} {v x : Value} {L : List St} (y : St) (hx : x.cells.toList = stc y) (h : w.ownsRow base 68 2 v (n + 1) (stcs L ++ x.cells.toList)) : w.ownsRow base 68 2 v (n + 1) (stcs (L ++ [y])) := by
  rw [hx] at h
  rw [stcs_append]
  simpa [stcs] using h
theorem srd_own {w : World} {base : Nat} {A : Option Addr} {n c : Nat} {l : List St} (h : w.ownsRow base 68 2 (.slice A n c) n (stcs l)) (hn : n ≤ 2000000) : SRd w A n l :=
  ⟨by have := h.1; rw [stcs_len] at this; omega, Reads.of_own h, hn⟩
set_option maxRecDepth 4000 in
set_option maxHeartbeats 8000000 in
theorem implParseWalk_an (w : World) (TP : TabP w) (TE : TabE w) (TM : TabM w) (s : ByteArray) (hs : s.size ≤ 1048576) :
    Calls Tryz.prog 23 #[.string s] w fun e w' => ∃ A n c, e = .returned (.tuple #[.agg #[.int .i64 (prsWk s.data.toList).st, .slice A n c], .bool (prsWkB s.data.toList)]) ∧ RIs w' w.heap.size w'.heap.size 68 2 A n c (stcs (prsWk s.data.toList).steps) ∧ Below w.heap.size w w' := by
  have HB : Below w.heap.size w (w.alloc (.cells #[.int .i64 0, .slice none 0 0] 30)) := (Below.refl _ _).alloc (Nat.le_refl _) _
  have XR := Blk.new w 30 #[.int .i64 0, .slice none 0 0]
  generalize hw0 : w.alloc (.cells #[.int .i64 0, .slice none 0 0] 30) = w0 at *
  obtain ⟨C, hC⟩ : ∃ C, cutL 32 s.data.toList = C := ⟨_, rfl⟩
  obtain ⟨p0, R, rfl⟩ : ∃ p0 R, C = p0 :: R := by
    cases C with
    | nil => exact absurd hC (cutL_ne _ _)
    | cons p0 R => exact ⟨p0, R, rfl⟩
  have hP : prsW s.data.toList = if fmtWk (prsIN p0) (R.map stP) = s.data.toList then some (prsIN p0, R.map stP) else none := by
    unfold prsW
    rw [hC]
    rfl
  have HP := Lib.hid hP
  have hpl : ∀ p ∈ p0 :: R, p.length ≤ s.size := fun p hp => by rw [Lib.size_eq]; exact piece_len (by rw [hC]; exact hp)
  have HPL := Lib.hid hpl
  have hcut := split_cap w0 (TM.up HB) 32 s hs
  rw [hC] at hcut
  have HCUT := Lib.hid hcut
  obtain ⟨st, hst⟩ : ∃ st, prsIN p0 = st := ⟨_, rfl⟩
  have HST := Lib.hid hst
  clear hcut hC hpl hP hst
  go_enter Tryz.func23, Tryz.ntmps23
  go_wp2_with fail
  refine HCUT.out.mono ?_
  rintro e w1 ⟨A, n, rfl, TR, hb1⟩
  obtain ⟨m, rfl⟩ : ∃ m, n = m + 1 := ⟨n - 1, by have := TR.ln; simp at this; omega⟩
  have HLN := Lib.hid (show R.length = m by have := TR.ln; simpa using this)
  have hnb := TR.bd
  obtain ⟨b, o, rfl, hbl, hcells⟩ := TR.cells (by omega)
  have c0 := hcells 0 p0 rfl
  rw [Nat.add_zero] at c0
  have XR1 := XR.below hb1 XR.lt
  have hB1 := below_then HB hb1
  have hb2 : Below w1.heap.size w1 (w1.alloc (.cells #[.int .i64 0, .slice none 0 0] 30)) := (Below.refl _ _).alloc (Nat.le_refl _) _
  have XG := Blk.new w1 30 #[.int .i64 0, .slice none 0 0]
  have c0a := cell_keep hb2 c0
  have hB2 := below_then hB1 hb2
  have XR2 := XR1.below hb2 XR1.lt
  have hrg : w.heap.size < w1.heap.size := XR1.lt
  have hz2 : (w1.alloc (.cells #[.int .i64 0, .slice none 0 0] 30)).heap.size = w1.heap.size + 1 := by simp
  have hcells2 : ∀ j s, (p0 :: R)[j]? = some s → (w1.alloc (.cells #[.int .i64 0, .slice none 0 0] 30)).cell? ⟨b, o + j, none⟩ = some (.string ⟨s.toArray⟩) := fun j s h => cell_keep hb2 (hcells j s h)
  have hPI := implParseInt_any (w1.alloc (.cells #[.int .i64 0, .slice none 0 0] 30)) (TP.up hB2) (TE.up hB2) ⟨p0.toArray⟩
  rw [show ((⟨p0.toArray⟩ : ByteArray).data.toList) = p0 from rfl, HST.out] at hPI
  have HPI := Lib.hid hPI
  clear hcells c0 TR hb1 XR XR1 hb2 hw0 HB hB1 HCUT hPI
  go_wp2_with fail
  refine HPI.out.mono ?_
  rintro e w3 ⟨rfl, hb3⟩
  have XG3 := (XG.below hb3 XG.lt).set_ 0 (.int .i64 st)
  have XGf := (XG.below hb3 XG.lt).frozen 0
  have XGc := (XG.below hb3 XG.lt).cell 0
  have XR3 := (XR2.below hb3 XR2.lt).far (p := ⟨w1.heap.size, 0, none⟩) (by dsimp only; omega) (.int .i64 st)
  have hB3 := (below_then hB2 hb3).setCell (p := ⟨w1.heap.size, 0, none⟩) (by dsimp only; omega) (.int .i64 st)
  have hcells3 : ∀ j s, (p0 :: R)[j]? = some s → (w3.setCell ⟨w1.heap.size, 0, none⟩ (.int .i64 st)).cell? ⟨b, o + j, none⟩ = some (.string ⟨s.toArray⟩) := fun j s h => by
    rw [World.cell?_setCell_other _ _ _ _ (fun e => by have := congrArg Addr.block e; dsimp only at this; omega)]
    exact cell_keep hb3 (hcells2 j s h)
  have hgl : w1.heap.size < (w3.setCell ⟨w1.heap.size, 0, none⟩ (.int .i64 st)).heap.size := XG3.lt
  clear hcells2 XG XR2 hB2 hb3 HPI hz2 c0a
  replace XG3 : Blk (w3.setCell ⟨w1.heap.size, 0, none⟩ (.int .i64 st)) w1.heap.size 30 #[.int .i64 st, .slice none 0 0] := XG3
  generalize hw4 : w3.setCell ⟨w1.heap.size, 0, none⟩ (.int .i64 st) = w4 at *
  generalize hgg : w1.heap.size = g at *
  obtain ⟨y4, hy4⟩ : ∃ y : KeptB w4 g, w4 = y.W := ⟨⟨w4, Tch.refl _ _ _⟩, rfl⟩
  have hw := hw4.trans hy4
  have XG4 : Blk y4.W g 30 #[.int .i64 st, .slice none 0 0] := by rw [← hy4]; exact XG3
  have TP4 := TP.up hB3
  have TE4 := TE.up hB3
  have ltP := Nat.lt_of_lt_of_le TP.lt (Nat.le_of_lt hrg)
  have ltE := Nat.lt_of_lt_of_le TE.lt (Nat.le_of_lt hrg)
  have HKP : RowKit.Hid (∀ z : KeptB w4 g, TabP z.W) := Lib.hid (fun z => TP4.tch z.be ltP)
  have HKE : RowKit.Hid (∀ z : KeptB w4 g, TabE z.W) := Lib.hid (fun z => TE4.tch z.be ltE)
  clear hw4 hy4 XG3 TP4 TE4 ltP ltE
  have hm1 : ((m + 1 : Nat) : Int) = (m : Int) + 1 := by omega
  by_cases hm0 : m = 0
  · subst hm0
    have hR : R = [] := List.eq_nil_of_length_eq_zero HLN.out
    subst hR
    go_wp2
    go_loopw [23] (fun i wr => i = .int .i64 0 ∧ wr = y4.W) (fun _ _ => 0)
    case atStart => exact ⟨rfl, rfl⟩
    case round =>
      obtain ⟨rfl, rfl⟩ := hrel
      have x0 := XG4.cell 0
      have x1 := XG4.cell 1
      have hF := implFormatWalk_is y4.W st (A := none) (n := 0) (c := 0) (l := []) (srd_own (c := 0) (base := y4.W.heap.size) (World.ownsRow_nil _ _ _ _) (by omega)) (HKP.out y4)
      obtain ⟨F, hFe⟩ : ∃ F, fmtWk st ([]) = F := ⟨_, rfl⟩
      have hp2 := HP.out
      rw [HST.out, List.map_nil] at hp2
      rw [hFe] at hF hp2
      have HF := Lib.hid hF
      have XR5 := XR3.tch y4.be (.inl (by omega))
      have hB5 := below_tch hB3 y4.be (by omega)
      clear hF hFe
      go_wp2_with fail
      refine HF.out.mono ?_
      rintro e w6 ⟨rfl, hb6⟩
      have XR6 := XR5.below hb6 XR5.lt
      have XG6 := XG4.below hb6 XG4.lt
      have hB6 := below_then hB5 hb6
      have d0 := XG6.cell 0
      have d1 := XG6.cell 1
      have r0 := XR6.cell 0
      have r1 := XR6.cell 1
      have q0 := XR6.frozen 0
      have q1 := XR6.frozen 1
      clear x0 x1 XR5 hB5 hb6 HF XG6
      by_cases hok : F = s.data.toList
      · rw [if_pos hok] at hp2
        have HN : RowKit.Hid (prsWk s.data.toList = ⟨st, []⟩) := Lib.hid (by unfold prsWk; rw [hp2])
        have HN1 : RowKit.Hid ((prsWk s.data.toList).st = st) := Lib.hid (by rw [HN.out])
        have HBB : RowKit.Hid (prsWkB s.data.toList = true) := Lib.hid (by unfold prsWkB; rw [hp2]; rfl)
        have hfs : (F == s.toList) = true := by rw [beq_iff_eq, ByteArray.toList_eq]; exact hok
        have hBF := (hB6.setCell (p := ⟨w.heap.size, 0, none⟩) (Nat.le_refl _) (.int .i64 st)).setCell (p := ⟨w.heap.size, 1, none⟩) (Nat.le_refl _) (.slice none 0 0)
        have hw6 : w.heap.size ≤ w4.heap.size := by omega
        clear hok hp2
        go_wp2
        rw [HBB.out, HN1.out]
        refine bodyPost_ret (v := .tuple #[.agg #[.int .i64 st, .slice none 0 0], .bool true]) ?_ rfl ?_
        · simp [results, Tryz.results23, go_sem]
          go_simp
        · exact ⟨none, 0, 0, rfl, by rw [HN.out]; exact (RIs.of (World.ownsRow_nil _ w.heap.size _ _) (by omega)).wide (Nat.le_refl _) (by simp), hBF⟩
      · rw [if_neg hok] at hp2
        have HN : RowKit.Hid (prsWk s.data.toList = ⟨0, []⟩) := Lib.hid (by unfold prsWk; rw [hp2])
        have HN1 : RowKit.Hid ((prsWk s.data.toList).st = 0) := Lib.hid (by rw [HN.out])
        have HBB : RowKit.Hid (prsWkB s.data.toList = false) := Lib.hid (by unfold prsWkB; rw [hp2]; rfl)
        have hfs : (F == s.toList) = false := by rw [beq_eq_false_iff_ne, ByteArray.toList_eq]; exact hok
        have hBF := (hB6.setCell (p := ⟨w.heap.size, 0, none⟩) (Nat.le_refl _) (.int .i64 0)).setCell (p := ⟨w.heap.size, 1, none⟩) (Nat.le_refl _) (.slice none 0 0)
        clear hok hp2
        go_wp2
        rw [HBB.out, HN1.out]
        refine bodyPost_ret (v := .tuple #[.agg #[.int .i64 0, .slice none 0 0], .bool false]) ?_ rfl ?_
        · simp [results, Tryz.results23, go_sem]
          go_simp
        · exact ⟨none, 0, 0, rfl, by rw [HN.out]; exact (RIs.of (World.ownsRow_nil _ w.heap.size _ _) (by omega)).wide (Nat.le_refl _) (by simp), hBF⟩
  · have hcm : ¬ m + 1 = 1 := by omega
    go_wp2
    go_loopw [23] (fun i wr => ∃ (k : Nat) (z : KeptB w4 g) (v : Value), wr = z.W ∧ k ≤ m ∧ i = .int .i64 k ∧ Blk z.W g 30 #[.int .i64 st, v] ∧ z.W.ownsRow w4.heap.size 68 2 v k (stcs ((R.take k).map stP))) (fun i _ => m - (intOf i).toNat)
    case atStart => exact ⟨0, y4, _, rfl, Nat.zero_le _, rfl, XG4, World.ownsRow_nil _ _ _ _⟩
    case round =>
      clear XG4
      obtain ⟨k, z, v, rfl, hk, rfl, XG, hown⟩ := hrel
      have hzs := z.be.size
      by_cases hlt : k < m
      · obtain ⟨p, hp⟩ : ∃ p, R[k]? = some p := ⟨_, List.getElem?_eq_getElem (by have := HLN.out; omega)⟩
        have hpS := HPL.out p (List.mem_cons_of_mem _ (List.mem_of_getElem? hp))
        have hc0 := hcells3 (k + 1) p (by simpa using hp)
        have hc1 : ∀ z : KeptB w4 g, z.W.cell? ⟨b, o + 1 + k, none⟩ = some (.string ⟨p.toArray⟩) := fun z => by
          rw [Nat.add_assoc, Nat.add_comm 1 k]
          exact KeptB.cell hc0 (by dsimp only; omega) z
        have hlt' : (k : Int) < m := by omega
        have hk0 : (0 : Int) ≤ (k : Int) := by omega
        obtain ⟨A1, d1, rfl, _⟩ := own_form hown
        obtain ⟨ds, hds⟩ : ∃ ds, Lib.hasSuffix p [45] = ds := ⟨_, rfl⟩
        obtain ⟨tr, htr⟩ : ∃ tr, Lib.trimSuffix p [45] = tr := ⟨_, rfl⟩
        obtain ⟨q, hq⟩ : ∃ q, prsIN tr = q := ⟨_, rfl⟩
        have hpz : (⟨p.toArray⟩ : ByteArray).size ≤ 9223372036854775807 := by rw [mk_sz]; omega
        have HHS : RowKit.Hid (∀ W, Calls Tryz.prog 59 #[.string ⟨p.toArray⟩, .string ⟨#[45]⟩] W fun e w' => e = .returned (.bool ds) ∧ w' = W) := Lib.hid (fun W => by rw [← hds]; exact Tryz.strings_HasSuffix ⟨p.toArray⟩ ⟨#[45]⟩ W hpz)
        have HTS : RowKit.Hid (∀ W, Calls Tryz.prog 60 #[.string ⟨p.toArray⟩, .string ⟨#[45]⟩] W fun e w' => e = .returned (.string ⟨tr.toArray⟩) ∧ w' = W) := Lib.hid (fun W => by rw [← htr]; exact Tryz.strings_TrimSuffix ⟨p.toArray⟩ ⟨#[45]⟩ W hpz)
        have HQI : RowKit.Hid (∀ z : KeptB w4 g, Calls Tryz.prog 58 #[.string ⟨tr.toArray⟩] z.W fun e w' => e = .returned (.tuple #[.int .i64 q, .bool (prsIB tr)]) ∧ Below z.W.heap.size z.W w') := Lib.hid (fun z => by
          have := implParseInt_any z.W (HKP.out z) (HKE.out z) ⟨tr.toArray⟩
          rw [show ((⟨tr.toArray⟩ : ByteArray).data.toList) = tr from rfl, hq] at this
          exact this)
        have HM : RowKit.Hid ((R.take (k + 1)).map stP = (R.take k).map stP ++ [⟨q, ds⟩]) := Lib.hid (by
          rw [List.take_add_one, hp]
          simp [stP_eq, hds, htr, hq])
        have q3 : Small (k + 1) := small_of (by omega)
        have hA5 : Below z.W.heap.size z.W (z.W.alloc (.cells #[.int .i64 0, .bool ds] 68)) := (Below.refl _ _).alloc (Nat.le_refl _) _
        obtain ⟨z5, hz5⟩ := z.of hA5
        have X5 := Blk.new z.W 68 #[.int .i64 0, .bool ds]
        have XG5 := XG.below hA5 XG.lt
        have ho5 := own_below hown hA5 (Nat.le_refl _)
        rw [hz5] at X5 XG5 ho5
        clear hds htr hq hc0 hp hA5
        go_wp2_with fail
        refine (HHS.out _).mono ?_
        rintro e w' ⟨rfl, rfl⟩
        go_wp2_with fail
        refine (HTS.out _).mono ?_
        rintro e w' ⟨rfl, rfl⟩
        go_wp2_with fail
        refine (HQI.out z5).mono ?_
        rintro e w6 ⟨rfl, hb6⟩
        have X6 := X5.below hb6 X5.lt
        have XG6 := XG5.below hb6 XG5.lt
        have ho6 := own_below ho5 hb6 (Nat.le_refl _)
        obtain ⟨z6, rfl⟩ := z5.of hb6
        obtain ⟨z7, hz7⟩ := z6.past (q := z.W.heap.size) (i := 0) (u := .int .i64 q) hzs
        have x6f := X6.frozen 0
        have x6c := X6.cell 0
        have X7 := X6.set_ 0 (.int .i64 q)
        have XG7 := XG6.far (p := ⟨z.W.heap.size, 0, none⟩) (by dsimp only; omega) (.int .i64 q)
        have ho7 := own_same (w' := z6.W.setCell ⟨z.W.heap.size, 0, none⟩ (.int .i64 q)) ho6 (fun g' hg' => Below.heap_setCell z6.W ⟨z.W.heap.size, 0, none⟩ (.int .i64 q) g' (by have := (ownBlock_some hown hg').2; dsimp only; omega))
        rw [hz7] at X7 XG7 ho7
        have y0 := X7.cell 0
        have y1 := X7.cell 1
        have gc := XG7.cell 1
        have ho8 := ho7.alloc (.cells #[.int .i64 q, .bool ds] 68)
        have hrn := reads_new (w := z7.W) (e := 68) (size := 2) (m := 1) #[.int .i64 q, .bool ds] rfl
        have XG8 := XG7.alloc (.cells #[.int .i64 q, .bool ds] 68)
        obtain ⟨z8, hz8⟩ := z7.of ((Below.refl z7.W.heap.size z7.W).alloc (Nat.le_refl _) (.cells #[.int .i64 q, .bool ds] 68))
        rw [hz8] at ho8 hrn XG8
        have hle8 := z8.be.size
        have h1c : ∀ u ∈ (#[.int .i64 q, .bool ds] : Array Value).toList, u.oneCell' = true := by
          intro u hu
          simp at hu
          rcases hu with rfl | rfl <;> rfl
        clear hz5 hb6 X5 XG5 ho5 X6 XG6 ho6
        go_wp2_with (at_builtin; refine ap_plain _ app_step (by decide) w4.heap.size (.tmp 38) (.tmp 40) rfl rfl _ _ _ rfl ho8 _ _ 1 1 _ rfl hrn h1c q3 hle8 ?_; intro v9 w9 hown9 hg9 hat9; obtain ⟨A9, d9, rfl, _⟩ := own_form hown9; have XG9 := XG8.grown hg9 (fun hq => by have := (ownBlock_some ho8 hq.symm).1; omega); obtain ⟨z9, rfl⟩ := KeptB.grown_ z8 ho8 (Nat.le_refl _) hg9; have g9c := XG9.cell 1; have g9f := XG9.frozen 1; have hown10 := ownsRow_setCell_below hown9 (a := ⟨g, 1, none⟩) hgl (.slice A9 (k + 1) d9); have XG10 := XG9.set_ 1 (.slice A9 (k + 1) d9); obtain ⟨z10, hz10⟩ := KeptB.set z9 hgl 1 (.slice A9 (k + 1) d9); rw [hz10] at hown10 XG10; clear hg9 hat9 hown9 XG9)
        go_roundw
        case rel => exact ⟨k + 1, z10, _, rfl, by omega, by go_num, XG10, by rw [HM.out, stcs_append]; exact hown10⟩
        case measure => simp [intOf]; omega
      · obtain rfl : k = m := by omega
        have hlt' : ¬ (k : Int) < k := by omega
        rw [List.take_of_length_le (by have := HLN.out; omega)] at hown
        obtain ⟨A2, c2, rfl, _⟩ := own_form hown
        have x0 := XG.cell 0
        have x1 := XG.cell 1
        have hF := implFormatWalk_is z.W st (c := c2) (srd_own hown (by omega)) (HKP.out z)
        obtain ⟨F, hFe⟩ : ∃ F, fmtWk st (R.map stP) = F := ⟨_, rfl⟩
        have hp2 := HP.out
        rw [HST.out] at hp2
        rw [hFe] at hF hp2
        have HF := Lib.hid hF
        have XR5 := XR3.tch z.be (.inl (by omega))
        have hB5 := below_tch hB3 z.be (by omega)
        clear hF hFe
        go_wp2_with fail
        refine HF.out.mono ?_
        rintro e w6 ⟨rfl, hb6⟩
        have XR6 := XR5.below hb6 XR5.lt
        have XG6 := XG.below hb6 XG.lt
        have ho6 := own_below hown hb6 (Nat.le_refl _)
        have hB6 := below_then hB5 hb6
        have d0 := XG6.cell 0
        have d1 := XG6.cell 1
        have r0 := XR6.cell 0
        have r1 := XR6.cell 1
        have q0 := XR6.frozen 0
        have q1 := XR6.frozen 1
        clear x0 x1 XG XR5 hB5 hb6 hown HF XG6
        by_cases hok : F = s.data.toList
        · rw [if_pos hok] at hp2
          have HN : RowKit.Hid (prsWk s.data.toList = ⟨st, R.map stP⟩) := Lib.hid (by unfold prsWk; rw [hp2])
          have HN1 : RowKit.Hid ((prsWk s.data.toList).st = st) := Lib.hid (by rw [HN.out])
          have HBB : RowKit.Hid (prsWkB s.data.toList = true) := Lib.hid (by unfold prsWkB; rw [hp2]; rfl)
          have hfs : (F == s.toList) = true := by rw [beq_iff_eq, ByteArray.toList_eq]; exact hok
          have hBF := (hB6.setCell (p := ⟨w.heap.size, 0, none⟩) (Nat.le_refl _) (.int .i64 st)).setCell (p := ⟨w.heap.size, 1, none⟩) (Nat.le_refl _) (.slice A2 k c2)
          have OF := ((RIs.of ho6 (by omega)).setB (p := ⟨w.heap.size, 0, none⟩) (by dsimp only; omega) (.int .i64 st)).setB (p := ⟨w.heap.size, 1, none⟩) (by dsimp only; omega) (.slice A2 k c2)
          have hw6 : w.heap.size ≤ w4.heap.size := by omega
          clear hok hp2
          go_wp2
          rw [HBB.out, HN1.out]
          refine bodyPost_ret (v := .tuple #[.agg #[.int .i64 st, .slice A2 k c2], .bool true]) ?_ rfl ?_
          · simp [results, Tryz.results23, go_sem]
            go_simp
          · exact ⟨_, _, _, rfl, by rw [HN.out]; exact OF.wide (by omega) (by simp), hBF⟩
        · rw [if_neg hok] at hp2
          have HN : RowKit.Hid (prsWk s.data.toList = ⟨0, []⟩) := Lib.hid (by unfold prsWk; rw [hp2])
          have HN1 : RowKit.Hid ((prsWk s.data.toList).st = 0) := Lib.hid (by rw [HN.out])
          have HBB : RowKit.Hid (prsWkB s.data.toList = false) := Lib.hid (by unfold prsWkB; rw [hp2]; rfl)
          have hfs : (F == s.toList) = false := by rw [beq_eq_false_iff_ne, ByteArray.toList_eq]; exact hok
          have hBF := (hB6.setCell (p := ⟨w.heap.size, 0, none⟩) (Nat.le_refl _) (.int .i64 0)).setCell (p := ⟨w.heap.size, 1, none⟩) (Nat.le_refl _) (.slice none 0 0)
          clear hok hp2
          go_wp2
          rw [HBB.out, HN1.out]
          refine bodyPost_ret (v := .tuple #[.agg #[.int .i64 0, .slice none 0 0], .bool false]) ?_ rfl ?_
          · simp [results, Tryz.results23, go_sem]
            go_simp
          · exact ⟨none, 0, 0, rfl, by rw [HN.out]; exact (RIs.of (World.ownsRow_nil _ w.heap.size _ _) (by omega)).wide (Nat.le_refl _) (by simp), hBF⟩
theorem prsWS_if {l p0 : List UInt8} {R : List (List UInt8)} (h : cutL 32 l = p0 :: R) : prsW l = if l ≠ [] ∧ fmtWk (prsIN p0) ((R.take 61).map stP) = l then some (prsIN p0, (R.take 61).map stP) else none := by
  rw [← prsWS_eq]
  unfold prsWS
  rw [h]
  rfl
theorem implParseWalk_is (w : World) (s : ByteArray) (TP : TabP w) (TE : TabE w) (TM : TabM w) (hs : s.size ≤ 1048576) :
    Calls Tryz.prog 23 #[.string s] w fun e w' => ∃ A n c, e = .returned (.tuple #[.agg #[.int .i64 (prsWk s.data.toList).st, .slice A n c], .bool (prsWkB s.data.toList)]) ∧ RIs w' w.heap.size w'.heap.size 68 2 A n c (stcs (prsWk s.data.toList).steps) ∧ Below w.heap.size w w' := implParseWalk_an w TP TE TM s hs
end Go.Proofs.YtomkgnamjfiocaaGreatDoor
