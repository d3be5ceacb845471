/- Texts cut: strings.Split and strings.Cut, and l2Cut of the reference. -/
import Derived.Test.YtljggmgijadjaaaDoorFmtE
import Derived.Test.YtljggmgijadjaaaDoorFmtW
namespace Go.Proofs.YtljggmgijadjaaaDoor
open Go.RowKit Go.ChangeShapes Go.WideShapes Go.ChangeAt Go.Deep
set_option linter.unusedVariables false
/-- A slice that reads as a list of texts. -/
structure TRd (w : World) (A : Option Addr) (n : Nat) (L : List (List UInt8)) : Prop where
  ln : L.length = n
  rd : Reads w w.heap.size 1 A n (L.map sv)
  bd : n ≤ 2000000
theorem TRd.up {W w : World} {A : Option Addr} {n : Nat} {L : List (List UInt8)} (h : TRd W A n L) (hb : Below W.heap.size W w) : TRd w A n L := ⟨h.ln, reads_up h.rd hb, h.bd⟩
theorem TRd.at_ {w : World} {A : Option Addr} {n k : Nat} {L : List (List UInt8)} (h : TRd w A n L) (hk : k < n) : ∃ b o s, A = some ⟨b, o, none⟩ ∧ b < w.heap.size ∧ L[k]? = some s ∧ w.cell? ⟨b, o + k, none⟩ = some (.string ⟨s.toArray⟩) := by
  obtain ⟨⟨b, o, sp⟩, u, rfl, hb, hu, hc⟩ := h.rd.at_ hk
  have hl := h.ln
  rw [List.getElem?_map, List.getElem?_eq_getElem (by omega)] at hu
  simp only [Option.map_some, Option.some.injEq] at hu
  subst hu
  have h0 := (h.rd.2 (by omega))
  obtain ⟨ad, he, _, hcc⟩ := h0
  injection he with he
  subst he
  have hsp : sp = none := by
    have h0 := hcc 0 (sv L[0]) (by rw [List.getElem?_map, List.getElem?_eq_getElem (by omega)]; rfl)
    simpa [Addr.add] using World.cell?_spot h0
  subst hsp
  rw [add_plain] at hc
  exact ⟨b, o, _, rfl, hb, List.getElem?_eq_getElem (by omega), hc⟩
theorem sv_of (s : ByteArray) : sv s.data.toList = .string s := rfl
theorem cutL_bound (q : UInt8) (s : ByteArray) (hs : s.size ≤ 1048576) : (cutL q s.data.toList).length ≤ 1048577 := by
  rw [cutL_len]
  have := List.count_le_length (a := q) (l := s.data.toList)
  have := Lib.size_eq s
  omega
theorem split_all (w : World) (T : TabM w) (q : UInt8) (s : ByteArray) (hs : s.size ≤ 1048576) :
    Calls Tryd.prog 45 #[.string s, .string ⟨#[q]⟩] w fun e w' => ∃ A n c, e = .returned (.slice A n c) ∧ TRd w' A n (cutL q s.data.toList) ∧ Below w.heap.size w w' ∧ (∀ ad, A = some ad → w.heap.size ≤ ad.block) ∧ c = n := by
  obtain ⟨m, hm⟩ := T.t
  refine (Tryd.strings_Split s ⟨#[q]⟩ m w (by omega) hm (Nat.le_refl 1)).mono ?_
  rintro e w' ⟨he, hw⟩
  have hb : Below w.heap.size w w' := by rw [hw]; exact (Below.refl _ _).alloc (Nat.le_refl _) _
  have hc := splitB_cutL q s
  generalize hL : Lib.splitB ⟨#[q]⟩ 0 (Lib.countB s ⟨#[q]⟩) s = L at *
  have hl : L.length = Lib.countB s ⟨#[q]⟩ + 1 := by rw [← hL]; exact Lib.splitB_all ⟨#[q]⟩ (Nat.le_refl 1) 0 _ s rfl
  have hcl : (cutL q s.data.toList).length = Lib.countB s ⟨#[q]⟩ + 1 := by rw [← hc, List.length_map, hl]
  have hm : (cutL q s.data.toList).map sv = L.map Value.string := by rw [← hc, List.map_map]; rfl
  refine ⟨_, _, _, he, ⟨hcl, ?_, ?_⟩, hb, fun ad h => by injection h with h; subst h; exact Nat.le_refl _, rfl⟩
  · rw [hm]
    refine ⟨by simp [hl], fun _ => ⟨_, rfl, by rw [hw]; simp, fun j u hu => ?_⟩⟩
    rw [add_plain, hw, Nat.zero_add, World.cell?_alloc_new]
    simpa using hu
  · have := cutL_bound q s hs
    omega
theorem split_lo (w : World) (T : TabM w) (q : UInt8) (s : ByteArray) (hs : s.size ≤ 1048576) :
    Calls Tryd.prog 45 #[.string s, .string ⟨#[q]⟩] w fun e w' => ∃ A n c, e = .returned (.slice A n c) ∧ TRd w' A n (cutL q s.data.toList) ∧ Below w.heap.size w w' ∧ ∀ ad, A = some ad → w.heap.size ≤ ad.block :=
  (split_all w T q s hs).mono fun e w' ⟨A, n, c, h1, h2, h3, h4, _⟩ => ⟨A, n, c, h1, h2, h3, h4⟩
theorem split_cap (w : World) (T : TabM w) (q : UInt8) (s : ByteArray) (hs : s.size ≤ 1048576) :
    Calls Tryd.prog 45 #[.string s, .string ⟨#[q]⟩] w fun e w' => ∃ A n, e = .returned (.slice A n n) ∧ TRd w' A n (cutL q s.data.toList) ∧ Below w.heap.size w w' :=
  (split_all w T q s hs).mono fun e w' ⟨A, n, c, h1, h2, h3, _, h5⟩ => ⟨A, n, by rw [h1, h5], h2, h3⟩
theorem split_any (w : World) (T : TabM w) (q : UInt8) (s : ByteArray) (hs : s.size ≤ 1048576) :
    Calls Tryd.prog 45 #[.string s, .string ⟨#[q]⟩] w fun e w' => ∃ A n c, e = .returned (.slice A n c) ∧ TRd w' A n (cutL q s.data.toList) ∧ Below w.heap.size w w' :=
  (split_lo w T q s hs).mono fun e w' ⟨A, n, c, h1, h2, h3, _⟩ => ⟨A, n, c, h1, h2, h3⟩
theorem cutS_any (w : World) (T : TabM w) (s : ByteArray) (hs : s.size ≤ 1048576) :
    Calls Tryd.prog 77 #[.string s, .string ⟨#[58]⟩] w fun e w' => e = .returned (.tuple #[.string ⟨(Lib.cut s.data.toList [58]).1.toArray⟩, .string ⟨(Lib.cut s.data.toList [58]).2.1.toArray⟩, .bool (Lib.cut s.data.toList [58]).2.2]) ∧ Below w.heap.size w w' := by
  obtain ⟨m, hm⟩ := T.t
  refine (Tryd.strings_Cut s ⟨#[58]⟩ m w (by omega) hm).mono ?_
  rintro e w' ⟨he, k, hw⟩
  exact ⟨he, by rw [hw]; exact ⟨rfl, rfl, rfl, Nat.le_refl _, fun _ _ => rfl⟩⟩
theorem ext_piece (s : ByteArray) (f k : Nat) (L : List UInt8) (h : L = (s.data.toList.drop f).take (k - f)) : s.extract f k = ⟨L.toArray⟩ := by
  apply ba_ext
  rw [Lib.extract_data, h]
set_option maxRecDepth 4000 in
set_option maxHeartbeats 2000000 in
theorem l2Cut_lo (w : World) (q : UInt8) (qi : Int) (hq : qi = (q.toNat : Int)) (s : ByteArray) (hs : s.size ≤ 1048576) :
    Calls Tryd.prog 42 #[.string s, .int .u8 qi] w fun e w' => ∃ A n c, e = .returned (.slice A n c) ∧ TRd w' A n (cutL q s.data.toList) ∧ Below w.heap.size w w' ∧ ∀ ad, A = some ad → w.heap.size ≤ ad.block := by
  subst hq
  have HSZ := Lib.hid (Lib.size_eq s)
  have ho0 := own_made (w := w) (base := w.heap.size) 9 1 (Nat.le_refl _)
  obtain ⟨y1, hy1⟩ := Kept.fst ((Below.refl w.heap.size w).alloc (Nat.le_refl _) (.cells #[] 9))
  rw [hy1] at ho0
  go_enter Tryd.func42, Tryd.ntmps42
  go_wp2
  clear hy1
  go_loopw [5, 6, 7] (fun v a i wr => ∃ (k f : Nat) (O : List (List UInt8)) (z : Kept w), wr = z.W ∧ k ≤ s.size ∧ f ≤ k ∧ i = .int .i64 k ∧ a = .int .i64 f ∧ O.length ≤ f ∧ z.W.ownsRow w.heap.size 9 1 v O.length (O.map sv) ∧ q ∉ (s.data.toList.drop f).take (k - f) ∧ cutL q s.data.toList = O ++ cutL q (s.data.toList.drop f)) (fun _ _ i _ => s.size - (intOf i).toNat)
  case atStart => exact ⟨0, 0, [], y1, rfl, Nat.zero_le _, Nat.le_refl _, rfl, rfl, Nat.le_refl _, ho0, by simp, by simp⟩
  case round =>
    clear ho0
    obtain ⟨k, f, O, z, rfl, hk, hf, rfl, rfl, hO, hown, hno, hcut⟩ := hrel
    have hzs := z.be.size
    have q3 : Small (O.length + 1) := small_of (by omega)
    by_cases hlt : k < s.size
    · obtain ⟨c, hc⟩ : ∃ c, s[k] = c := ⟨_, rfl⟩
      have hcd : s.data.toList[k]? = some c := by rw [List.getElem?_eq_getElem (by simpa using hlt), ← hc]; rfl
      have hdr : s.data.toList.drop k = c :: s.data.toList.drop (k + 1) := by
        rw [List.drop_eq_getElem_cons (by simpa using hlt)]
        congr 1
      have hlt' : (k : Int) < s.size := by omega
      have hk0 : (0 : Int) ≤ (k : Int) := by omega
      by_cases hcq : c = q
      · subst hcq
        have hsplit : s.data.toList.drop f = (s.data.toList.drop f).take (k - f) ++ c :: s.data.toList.drop (k + 1) := by
          rw [← hdr, show s.data.toList.drop k = (s.data.toList.drop f).drop (k - f) by rw [List.drop_drop]; congr 1; omega, List.take_append_drop]
        obtain ⟨P, hP⟩ : ∃ P, (s.data.toList.drop f).take (k - f) = P := ⟨_, rfl⟩
        rw [hP] at hno hsplit
        have hc2 : cutL c s.data.toList = (O ++ [P]) ++ cutL c (s.data.toList.drop (k + 1)) := by
          rw [hcut, hsplit, cutL_hit c _ P hno]
          simp
        have hx := ext_piece s f k P hP.symm
        have HC2 := Lib.hid hc2
        have h15 := sv_one [P]
        have hf0 : (0 : Int) ≤ (f : Int) := by omega
        have hfk : (f : Int) ≤ (k : Int) := by omega
        have hks : (k : Int) ≤ s.size := by omega
        clear hcut hno hsplit hc2 hP hdr hcd
        go_wp2_with (at_builtin; refine ap_plain _ app_str (by decide) w.heap.size (.tmp 20) (.tmp 25) rfl rfl _ _ _ rfl (hown.alloc _) _ _ 1 1 _ rfl (reads_new _ rfl) h15 q3 (by simp; omega) ?_; intro v7 w7 hown7 hg7 hat7; have hB7 := below_grown_own (z.be.alloc hzs _) (hown.alloc _) hg7 (Nat.le_refl _) (by simp; omega); replace hown7 := own_snoc_str P rfl hown7; clear hg7 hat7; obtain ⟨z7, rfl⟩ := Kept.fst hB7)
        go_roundw
        case rel => exact ⟨k + 1, k + 1, O ++ [P], z7, rfl, by omega, Nat.le_refl _, by go_num, by go_num, by simp; omega, by rw [List.length_append]; exact hown7, by simp, HC2.out⟩
        case measure => simp [intOf]; omega
      · have hne : ((c.toNat : Int) == (q.toNat : Int)) = false := by
          rw [beq_eq_false_iff_ne]
          intro e
          exact hcq (UInt8.toNat_inj.1 (by omega))
        have hno2 : q ∉ (s.data.toList.drop f).take (k + 1 - f) := by
          rw [show k + 1 - f = (k - f) + 1 by omega, List.take_add_one, List.mem_append]
          rintro (h | h)
          · exact hno h
          · rw [List.getElem?_drop, show f + (k - f) = k by omega, hcd] at h
            simp at h
            exact hcq h.symm
        have HN := Lib.hid hno2
        have HC := Lib.hid hcut
        clear hcut hno hno2 hdr hcd
        go_wp2
        go_roundw
        case rel => exact ⟨k + 1, f, O, z, rfl, by omega, by omega, by go_num, rfl, hO, hown, HN.out, HC.out⟩
        case measure => simp [intOf]; omega
    · obtain rfl : k = s.size := by omega
      have hlt' : ¬ (s.size : Int) < s.size := by omega
      obtain ⟨P, hP⟩ : ∃ P, (s.data.toList.drop f).take (s.size - f) = P := ⟨_, rfl⟩
      have hPd : s.data.toList.drop f = P := by rw [← hP, List.take_of_length_le (by rw [List.length_drop]; have := HSZ.out; omega)]
      rw [hP] at hno
      have hc2 : cutL q s.data.toList = O ++ [P] := by rw [hcut, hPd, cutL_miss q P hno]
      have hx := ext_piece s f s.size P hP.symm
      have HC2 := Lib.hid hc2
      have h15 := sv_one [P]
      have hf0 : (0 : Int) ≤ (f : Int) := by omega
      have hfk : (f : Int) ≤ (s.size : Int) := by omega
      clear hcut hno hc2 hP hPd
      go_wp2_with (at_builtin; refine ap_plain _ app_str (by decide) w.heap.size (.tmp 29) (.tmp 33) rfl rfl _ _ _ rfl (hown.alloc _) _ _ 1 1 _ rfl (reads_new _ rfl) h15 q3 (by simp; omega) ?_; intro v7 w7 hown7 hg7 hat7; have hB7 := below_grown_own (z.be.alloc hzs _) (hown.alloc _) hg7 (Nat.le_refl _) (by simp; omega); replace hown7 := own_snoc_str P rfl hown7; clear hg7 hat7; obtain ⟨z7, rfl⟩ := Kept.fst hB7)
      go_ret
      obtain ⟨A7, c7, rfl, _, _, hrd⟩ := own_form hown7
      obtain ⟨g8, cap8, hv8, hge8, _⟩ := hown7.form (by omega)
      exact ⟨A7, _, ⟨c7, rfl⟩, ⟨by rw [HC2.out]; simp, by rw [HC2.out]; exact hrd, by omega⟩, z7.be, fun ad h => by injection hv8 with e1; rw [e1] at h; injection h with h; subst h; exact hge8⟩
theorem l2Cut_any (w : World) (q : UInt8) (qi : Int) (hq : qi = (q.toNat : Int)) (s : ByteArray) (hs : s.size ≤ 1048576) :
    Calls Tryd.prog 42 #[.string s, .int .u8 qi] w fun e w' => ∃ A n c, e = .returned (.slice A n c) ∧ TRd w' A n (cutL q s.data.toList) ∧ Below w.heap.size w w' :=
  (l2Cut_lo w q qi hq s hs).mono fun e w' ⟨A, n, c, h1, h2, h3, _⟩ => ⟨A, n, c, h1, h2, h3⟩
end Go.Proofs.YtljggmgijadjaaaDoor
