/- FormatInt and ParseInt of both packages. -/
import Derived.Test.YtomkgnamjfiocaaGreatDoorBaseE
import Derived.Test.YtomkgnamjfiocaaGreatDoorBaseA
import Derived.Test.YtomkgnamjfiocaaGreatDoorShelf
import Derived.Lib.AppendIntMem
namespace Go.Proofs.YtomkgnamjfiocaaGreatDoor
open Go.RowKit Go.ChangeShapes Go.WideShapes Go.ChangeAt Go.Deep
set_option linter.unusedVariables false
def i64B (n : Int) : Prop := -9223372036854775808 ≤ n ∧ n ≤ 9223372036854775807
theorem i64B_wf {n : Int} (h : (Lit.int .i64 n).wf = true) : i64B n := bounds_i64 h
theorem grow_be (w : World) (k : Nat) (os : Array Obj) : Below w.heap.size w (Sort.grow (w.drewN k) os) :=
  Lib.below_grow _ _ (Nat.le_refl _) _ _
theorem itoa_be (w : World) (T : TabP w) (n : Int) (h : i64B n) :
    Calls Tryz.prog 100 #[.int .i64 n] w fun e w' => e = .returned (.string ⟨(Lib.itoa n).toArray⟩) ∧ Below w.heap.size w w' :=
  (Tryz.strconv_Itoa n h.1 h.2 w T.t).mono fun e w' ⟨he, k, os, hw⟩ => ⟨he, by rw [hw]; exact grow_be w k os⟩
theorem implFormatInt_any (w : World) (T : TabP w) (n : Int) (h : i64B n) :
    Calls Tryz.prog 56 #[.int .i64 n] w fun e w' => e = .returned (.string ⟨(Lib.itoa n).toArray⟩) ∧ Below w.heap.size w w' := by
  go_enter Tryz.func56, Tryz.ntmps56
  go_wp2_with fail
  refine (itoa_be w T n h).mono ?_
  rintro e w' ⟨rfl, hb⟩
  go_wp2
  go_ret
  exact ⟨rfl, hb⟩
theorem run_byte_str (b : UInt8) (wr : World) (x : Int) (hx : x = (b.toNat : Int)) :
    (convert 22 9 (.slice (some ⟨wr.heap.size, 0, none⟩) 1 1)).run Tryz.prog (wr.alloc (.cells #[.int .u8 x] 5)) = .ok (.string ⟨#[b]⟩) (wr.alloc (.cells #[.int .u8 x] 5)) := by
  subst hx
  exact run_convert_bytes_back (P := Tryz.prog) _ 22 9 5 ⟨wr.heap.size, 0, none⟩ 1 [b] Tryz.underlying22 Tryz.underlying5 Tryz.underlying9 (fun j hj => by
    have hj0 : j = 0 := by simpa using hj
    subst hj0
    exact one_new (w := wr) (u := .int .u8 (b.toNat : Int)) (e := 5) 0 _ rfl)
theorem tail_len (v : Nat) (h : v < 18446744073709551616) : (tailDec v).length ≤ 20 := by
  unfold tailDec
  split
  · simp
  · rw [Lib.decDigits_length]
    exact Lib.nDigits_le20 v h
set_option maxRecDepth 4000 in
set_option maxHeartbeats 1000000 in
theorem specFormatInt_any (w : World) (n : Int) (h : i64B n) :
    Calls Tryz.prog 120 #[.int .i64 n] w fun e w' => e = .returned (.string ⟨(Lib.itoa n).toArray⟩) ∧ Below w.heap.size w w' := by
  obtain ⟨hn0, hn1⟩ := h
  go_enter Tryz.func120, Tryz.ntmps120
  by_cases h0 : n = 0
  · subst h0
    have hE : Lib.itoa 0 = [48] := by rw [show (0 : Int) = ((0 : Nat) : Int) from rfl, Lib.itoa_nonneg, dec_small (by omega)]; rfl
    have HE := Lib.hid hE
    clear hE
    go_wp2
    go_ret
    exact ⟨by rw [HE.out] <;> rfl, Below.refl _ _⟩
  · have h0' : (n == 0) = false := by simpa using h0
    obtain ⟨u, hu⟩ : ∃ u, n.natAbs = u := ⟨_, rfl⟩
    have hu0 : u ≠ 0 := by omega
    have hub : u < 18446744073709551616 := by omega
    have HT : RowKit.Hid (Lib.decDigits u = tailDec u) := Lib.hid (by unfold tailDec; rw [if_neg hu0])
    obtain ⟨sg, hsg⟩ : ∃ sg : Bool, decide (n < 0) = sg := ⟨_, rfl⟩
    have HI : RowKit.Hid (Lib.itoa n = if sg then 45 :: Lib.decDigits u else Lib.decDigits u) := Lib.hid (by
      unfold Lib.itoa
      by_cases hneg : n < 0
      · rw [if_pos hneg, hu, ← hsg, if_pos (by simpa using hneg)]
      · rw [if_neg hneg, show n.toNat = u by omega, ← hsg, if_neg (by simpa using hneg)])
    go_wp2
    go_loopw [0, 3] (fun x v wr => ∃ (m : Int) (S : ByteArray), x = .int .i64 m ∧ v = .string S ∧ (sg = true → m ≤ 0) ∧ (sg = false → 0 ≤ m) ∧ m.natAbs ≤ u ∧ tailDec m.natAbs ++ S.data.toList = Lib.decDigits u ∧ Below w.heap.size w wr) (fun x _ _ => (intOf x).natAbs)
    case atStart => exact ⟨n, ⟨#[]⟩, rfl, rfl, fun e => by rw [e] at hsg; simp at hsg; omega, fun e => by rw [e] at hsg; simp at hsg; omega, by omega, by rw [hu, HT.out]; exact List.append_nil _, Below.refl _ _⟩
    case round =>
      obtain ⟨m, S, rfl, rfl, hs1, hs2, hm, hS, hb⟩ := hrel
      by_cases hz : m = 0
      · subst hz
        have hS' : S = ⟨(Lib.decDigits u).toArray⟩ := by
          rw [← hS]
          simp [tailDec]
        have hlen : (Lib.decDigits u).length ≤ 20 := by rw [Lib.decDigits_length]; exact Lib.nDigits_le20 u hub
        have hSz : S.size ≤ 20 := by rw [hS', Lib.size_eq]; exact hlen
        have HS := Lib.hid hS'
        clear hS hS' hs1 hs2
        cases sg
        · go_wp2
          go_ret
          exact ⟨by rw [HI.out, HS.out, if_neg (by simp)] <;> rfl, hb⟩
        · have g1 : ¬ 9223372036854775807 < 1 + S.size := by omega
          go_wp2
          go_ret
          refine ⟨?_, hb⟩
          have e := HI.out
          simp only [if_true] at e
          rw [e, HS.out]
          exact congrArg (fun x => Ending.returned (Value.string x)) (ByteArray.ext (by simp))
      · obtain ⟨v, hv⟩ : ∃ v, m.natAbs = v := ⟨_, rfl⟩
        have hv0 : v ≠ 0 := by omega
        obtain ⟨d, hd⟩ : ∃ d, v % 10 = d := ⟨_, rfl⟩
        have hd9 : d < 10 := by omega
        have hst := tailDec_step hv0
        rw [hd] at hst
        obtain ⟨b, hbe⟩ : ∃ b, UInt8.ofNat (48 + d) = b := ⟨_, rfl⟩
        have hbn : (b.toNat : Int) = 48 + (d : Int) := by rw [← hbe, UInt8.toNat_ofNat']; omega
        rw [hbe] at hst
        have hl : S.size ≤ 20 := by
          have h1 := congrArg List.length hS
          rw [List.length_append, Lib.decDigits_length] at h1
          have h2 := Lib.nDigits_le20 u hub
          rw [Lib.size_eq]
          omega
        have hS2 : tailDec (v / 10) ++ (b :: S.data.toList) = Lib.decDigits u := by rw [← hS, hv, hst]; simp
        have HS := Lib.hid hS2
        have hc := run_byte_str b wr (48 + (d : Int)) hbn.symm
        have g1 : ¬ 9223372036854775807 < 1 + S.size := by omega
        have w1 : IntKind.i64.wrap (48 + (d : Int)) = 48 + (d : Int) := IntWalk.i64_in _ (by omega)
        have w2 : IntKind.u8.wrap (48 + (d : Int)) = 48 + (d : Int) := by rw [IntKind.wrap_u8]; omega
        have hsz := hb.size
        have HB := Lib.hid hbn
        clear hS hS2 hst hbe hbn
        cases sg
        · obtain rfl : m = (v : Int) := by have := hs2 rfl; omega
          have e1 : (v : Int).tmod 10 = (d : Int) := by rw [Int.tmod_eq_emod_of_nonneg (by omega)]; omega
          have e2 : (v : Int).tdiv 10 = ((v / 10 : Nat) : Int) := by rw [Int.tdiv_eq_ediv_of_nonneg (by omega)]; omega
          have e3 : IntKind.i64.wrap ((v / 10 : Nat) : Int) = ((v / 10 : Nat) : Int) := IntWalk.i64_in _ (by omega)
          have d0 : ¬ (d : Int) < 0 := by omega
          have v0 : ((v : Int) == 0) = false := by simpa using hz
          clear hs1 hs2 hd
          go_wp2
          go_roundw
          case rel => exact ⟨((v / 10 : Nat) : Int), _, by go_num, rfl, by simp, fun _ => by omega, by omega, by rw [show ((v / 10 : Nat) : Int).natAbs = v / 10 by omega, ← HS.out]; simp, hb.alloc hsz _⟩
          case measure => simp [intOf]; omega
        · obtain rfl : m = -(v : Int) := by have := hs1 rfl; omega
          have e1 : (-(v : Int)).tmod 10 = -(d : Int) := by rw [Int.neg_tmod, Int.tmod_eq_emod_of_nonneg (by omega)]; omega
          have e2 : (-(v : Int)).tdiv 10 = -((v / 10 : Nat) : Int) := by rw [Int.neg_tdiv, Int.tdiv_eq_ediv_of_nonneg (by omega)]; omega
          have e3 : IntKind.i64.wrap (-((v / 10 : Nat) : Int)) = -((v / 10 : Nat) : Int) := IntWalk.i64_in _ (by omega)
          have e4 : IntKind.i64.wrap (d : Int) = (d : Int) := IntWalk.i64_in _ (by omega)
          have v0 : (-(v : Int) == 0) = false := by simpa using hz
          clear hs1 hs2 hd
          by_cases hd0 : d = 0
          · have hc0 := run_byte_str b wr 48 (by have := HB.out; omega)
            subst hd0
            clear hc
            go_wp2
            go_roundw
            case rel => exact ⟨-((v / 10 : Nat) : Int), _, by go_num, rfl, fun _ => by omega, by simp, by omega, by rw [show (-((v / 10 : Nat) : Int)).natAbs = v / 10 by omega, ← HS.out]; simp, hb.alloc hsz _⟩
            case measure => simp [intOf]; omega
          · have d0 : -(d : Int) < 0 := by omega
            go_wp2
            go_roundw
            case rel => exact ⟨-((v / 10 : Nat) : Int), _, by go_num, rfl, fun _ => by omega, by simp, by omega, by rw [show (-((v / 10 : Nat) : Int)).natAbs = v / 10 by omega, ← HS.out]; simp, hb.alloc hsz _⟩
            case measure => simp [intOf]; omega
def prsIN (l : List UInt8) : Int := (prsI l).getD 0
def prsIB (l : List UInt8) : Bool := (prsI l).isSome
theorem bytesWorld_be (w : World) (t : ByteArray) : Below w.heap.size w (Lib.bytesWorld w 5 t) := Lib.bytesWorld_below _ _ _
theorem atoi_ok (w : World) (s : ByteArray) (hl : s.size ≤ 18) (n : Int) (h : Lib.atoi s.data.toList = some n) :
    Calls Tryz.prog 102 #[.string s] w fun e w' => e = .returned (.tuple #[.int .i64 n, .nilIface]) ∧ Below w.heap.size w w' :=
  (Tryz.strconv_Atoi s n hl h w).mono fun e w' ⟨he, t, hw⟩ => ⟨he, by rw [hw]; exact bytesWorld_be w t⟩
theorem atoi_bad (w : World) (T : TabE w) (s : ByteArray) (hl : s.size ≤ 18) (h : Lib.atoi s.data.toList = none) :
    Calls Tryz.prog 102 #[.string s] w fun e w' => (∃ N, e = .returned (.tuple #[.int .i64 0, .iface 170 (.pointer (some ⟨N, 0, none⟩))])) ∧ Below w.heap.size w w' := by
  obtain ⟨tp, p, hv⟩ := T.t
  exact (Tryz.strconv_Atoi_err_var s hl h tp p w hv).mono fun e w' ⟨N, he, _, _, hb⟩ => ⟨⟨N, he⟩, hb⟩
set_option maxRecDepth 4000 in
set_option maxHeartbeats 1000000 in
theorem implParseInt_any (w : World) (TP : TabP w) (TE : TabE w) (s : ByteArray) :
    Calls Tryz.prog 58 #[.string s] w fun e w' => e = .returned (.tuple #[.int .i64 (prsIN s.data.toList), .bool (prsIB s.data.toList)]) ∧ Below w.heap.size w w' := by
  have HSZ := Lib.hid (Lib.size_eq s)
  go_enter Tryz.func58, Tryz.ntmps58
  by_cases hlen : (s.size : Int) > 10
  · have hp := prsI_len (l := s.data.toList) (by have := HSZ.out; omega)
    have HN : RowKit.Hid (prsIN s.data.toList = 0) := Lib.hid (by unfold prsIN; rw [hp]; rfl)
    have HB : RowKit.Hid (prsIB s.data.toList = false) := Lib.hid (by unfold prsIB; rw [hp]; rfl)
    clear hp
    go_wp2
    rw [HN.out, HB.out]
    go_ret2
    exact ⟨rfl, Below.refl _ _⟩
  · cases ha : Lib.atoi s.data.toList with
    | none =>
      have hcall := atoi_bad w TE s (by omega) ha
      have hp : prsI s.data.toList = none := by unfold prsI; rw [ha]
      have HN : RowKit.Hid (prsIN s.data.toList = 0) := Lib.hid (by unfold prsIN; rw [hp]; rfl)
      have HB : RowKit.Hid (prsIB s.data.toList = false) := Lib.hid (by unfold prsIB; rw [hp]; rfl)
      clear hp ha
      go_wp2_with fail
      refine hcall.mono ?_
      rintro e w1 ⟨⟨N, rfl⟩, hb1⟩
      go_wp2
      rw [HN.out, HB.out]
      go_ret2
      exact ⟨rfl, hb1⟩
    | some n =>
      have hbd := Lib.atoi_bound ha (by rw [← Lib.size_eq]; omega)
      have hcall := atoi_ok w s (by omega) n ha
      have hp : prsI s.data.toList = if Lib.itoa n = s.data.toList ∧ -999999999 ≤ n ∧ n ≤ 999999999 then some n else none := by unfold prsI; rw [ha]
      rcases Decidable.em (Lib.itoa n = s.toList ∧ -999999999 ≤ n ∧ n ≤ 999999999) with hc | hc
      · rw [if_pos (by rw [← ByteArray.toList_eq]; exact hc)] at hp
        have HN : RowKit.Hid (prsIN s.data.toList = n) := Lib.hid (by unfold prsIN; rw [hp]; rfl)
        have HB : RowKit.Hid (prsIB s.data.toList = true) := Lib.hid (by unfold prsIB; rw [hp]; rfl)
        obtain ⟨h1, h2, h3⟩ := hc
        clear hp ha
        go_wp2_with fail
        refine hcall.mono ?_
        rintro e w1 ⟨rfl, hb1⟩
        go_wp2_with fail
        refine (itoa_be w1 (TP.up hb1) n ⟨by omega, by omega⟩).mono ?_
        rintro e w2 ⟨rfl, hb2⟩
        have hB2 := below_then hb1 hb2
        go_wp2
        rw [HN.out, HB.out]
        go_ret2
        exact ⟨rfl, hB2⟩
      · rw [if_neg (by rw [← ByteArray.toList_eq]; exact hc)] at hp
        have HN : RowKit.Hid (prsIN s.data.toList = 0) := Lib.hid (by unfold prsIN; rw [hp]; rfl)
        have HB : RowKit.Hid (prsIB s.data.toList = false) := Lib.hid (by unfold prsIB; rw [hp]; rfl)
        have HC := Lib.hid hc
        clear hp ha hc
        go_wp2_with fail
        refine hcall.mono ?_
        rintro e w1 ⟨rfl, hb1⟩
        go_wp2_with fail
        refine (itoa_be w1 (TP.up hb1) n ⟨by omega, by omega⟩).mono ?_
        rintro e w2 ⟨rfl, hb2⟩
        have hB2 := below_then hb1 hb2
        go_wp2
        all_goals first
          | (rw [HN.out, HB.out]
             go_ret2
             exact ⟨rfl, hB2⟩)
          | (exfalso
             have hd : (!decide (n ≤ 999999999)) = false := by assumption
             simp only [Bool.not_eq_false', decide_eq_true_eq] at hd
             exact HC.out ⟨by assumption, by assumption, hd⟩)
end Go.Proofs.YtomkgnamjfiocaaGreatDoor
