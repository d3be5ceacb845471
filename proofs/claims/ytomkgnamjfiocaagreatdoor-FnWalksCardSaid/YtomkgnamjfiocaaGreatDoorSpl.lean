/- Texts cut: strings.Split and strings.Cut, and l2Cut of the reference. -/
import Derived.Test.YtomkgnamjfiocaaGreatDoorFmtE
import Derived.Test.YtomkgnamjfiocaaGreatDoorFmtW
namespace Go.Proofs.YtomkgnamjfiocaaGreatDoor
open Go.RowKit Go.ChangeShapes Go.WideShapes Go.ChangeAt Go.Deep
set_option linter.unusedVariables false
/-- A slice that reads as a list of texts. -/
structure TRd (w : World) (A : Option Addr) (n : Nat) (L : List (List UInt8)) : Prop where
  ln : L.length = n
  rd : Reads w w.heap.size 1 A n (L.map sv)
  bd : n ≤ 2000000
theorem TRd.up {W w : World} {A : Option Addr} {n : Nat} {L : List (List UInt8)} (h : TRd W A n L) (hb : Below W.heap.size W w) : TRd w A n L := ⟨h.ln, reads_up h.rd hb, h.bd⟩
theorem TRd.at_ {w : World} {A : Option Addr} {n k : Nat} {L : List (List UInt8)} (h : TRd w A n L) (hk : k < n) : ∃ b o s, A = some ⟨b, o, none⟩ ∧ b < w.heap.size ∧ L[k]? = some s ∧ w.cell? ⟨b, o + k, none⟩ = some (.string ⟨s.toArray⟩) := by
  obtain ⟨⟨b, o, sp⟩, u, rfl, hb, hu, hc⟩ := h.rd.at_ hk
  have hl := h.ln
  rw [List.getElem?_map, List.getElem?_eq_getElem (by omega)] at hu
  simp only [Option.map_some, Option.some.injEq] at hu
  subst hu
  have h0 := (h.rd.2 (by omega))
  obtain ⟨ad, he, _, hcc⟩ := h0
  injection he with he
  subst he
  have hsp : sp = none := by
    have h0 := hcc 0 (sv L[0]) (by rw [List.getElem?_map, List.getElem?_eq_getElem (by omega)]; rfl)
    simpa [Addr.add] using World.cell?_spot h0
  subst hsp
  rw [add_plain] at hc
  exact ⟨b, o, _, rfl, hb, List.getElem?_eq_getElem (by omega), hc⟩
theorem sv_of (s : ByteArray) : sv s.data.toList = .string s := rfl
theorem cutL_bound (q : UInt8) (s : ByteArray) (hs : s.size ≤ 1048576) : (cutL q s.data.toList).length ≤ 1048577 := by
  rw [cutL_len]
  have := List.count_le_length (a := q) (l := s.data.toList)
  have := Lib.size_eq s
  omega
theorem split_all (w : World) (T : TabM w) (q : UInt8) (s : ByteArray) (hs : s.size ≤ 1048576) :
    Calls Tryz.prog 57 #[.string s, .string ⟨#[q]⟩] w fun e w' => ∃ A n c, e = .returned (.slice A n c) ∧ TRd w' A n (cutL q s.data.toList) ∧ Below w.heap.size w w' ∧ (∀ ad, A = some ad → w.heap.size ≤ ad.block) ∧ c = n := by
  obtain ⟨m, hm⟩ := T.t
  refine (Tryz.strings_Split s ⟨#[q]⟩ m w (by omega) hm (Nat.le_refl 1)).mono ?_
  rintro e w' ⟨he, hw⟩
  have hb : Below w.heap.size w w' := by rw [hw]; exact (Below.refl _ _).alloc (Nat.le_refl _) _
  have hc := splitB_cutL q s
  generalize hL : Lib.splitB ⟨#[q]⟩ 0 (Lib.countB s ⟨#[q]⟩) s = L at *
  have hl : L.length = Lib.countB s ⟨#[q]⟩ + 1 := by rw [← hL]; exact Lib.splitB_all ⟨#[q]⟩ (Nat.le_refl 1) 0 _ s rfl
  have hcl : (cutL q s.data.toList).length = Lib.countB s ⟨#[q]⟩ + 1 := by rw [← hc, List.length_map, hl]
  have hm : (cutL q s.data.toList).map sv = L.map Value.string := by rw [← hc, List.map_map]; rfl
  refine ⟨_, _, _, he, ⟨hcl, ?_, ?_⟩, hb, fun ad h => by injection h with h; subst h; exact Nat.le_refl _, rfl⟩
  · rw [hm]
    refine ⟨by simp [hl], fun _ => ⟨_, rfl, by rw [hw]; simp, fun j u hu => ?_⟩⟩
    rw [add_plain, hw, Nat.zero_add, World.cell?_alloc_new]
    simpa using hu
  · have := cutL_bound q s hs
    omega
theorem split_lo (w : World) (T : TabM w) (q : UInt8) (s : ByteArray) (hs : s.size ≤ 1048576) :
    Calls Tryz.prog 57 #[.string s, .string ⟨#[q]⟩] w fun e w' => ∃ A n c, e = .returned (.slice A n c) ∧ TRd w' A n (cutL q s.data.toList) ∧ Below w.heap.size w w' ∧ ∀ ad, A = some ad → w.heap.size ≤ ad.block :=
  (split_all w T q s hs).mono fun e w' ⟨A, n, c, h1, h2, h3, h4, _⟩ => ⟨A, n, c, h1, h2, h3, h4⟩
theorem split_cap (w : World) (T : TabM w) (q : UInt8) (s : ByteArray) (hs : s.size ≤ 1048576) :
    Calls Tryz.prog 57 #[.string s, .string ⟨#[q]⟩] w fun e w' => ∃ A n, e = .returned (.slice A n n) ∧ TRd w' A n (cutL q s.data.toList) ∧ Below w.heap.size w w' :=
  (split_all w T q s hs).mono fun e w' ⟨A, n, c, h1, h2, h3, _, h5⟩ => ⟨A, n, by rw [h1, h5], h2, h3⟩
theorem split_any (w : World) (T : TabM w) (q : UInt8) (s : ByteArray) (hs : s.size ≤ 1048576) :
    Calls Tryz.prog 57 #[.string s, .string ⟨#[q]⟩] w fun e w' => ∃ A n c, e = .returned (.slice A n c) ∧ TRd w' A n (cutL q s.data.toList) ∧ Below w.heap.size w w' :=
  (split_lo w T q s hs).mono fun e w' ⟨A, n, c, h1, h2, h3, _⟩ => ⟨A, n, c, h1, h2, h3⟩
theorem cutS_any (w : World) (T : TabM w) (s : ByteArray) (hs : s.size ≤ 1048576) :
    Calls Tryz.prog 119 #[.string s, .string ⟨#[58]⟩] w fun e w' => e = .returned (.tuple #[.string ⟨(Lib.cut s.data.toList [58]).1.toArray⟩, .string ⟨(Lib.cut s.data.toList [58]).2.1.toArray⟩, .bool (Lib.cut s.data.toList [58]).2.2]) ∧ Below w.heap.size w w' := by
  obtain ⟨m, hm⟩ := T.t
  refine (Tryz.strings_Cut s ⟨#[58]⟩ m w (by omega) hm).mono ?_
  rintro e w' ⟨he, k, hw⟩
  exact ⟨he, by rw [hw]; exact ⟨rfl, rfl, rfl, Nat.le_refl _, fun _ _ => rfl⟩⟩
theorem ext_piece (s : ByteArray) (f k : Nat) (L : List UInt8) (h : L = (s.data.toList.drop f).take (k - f)) : s.extract f k = ⟨L.toArray⟩ := by
  apply ba_ext
  rw [Lib.extract_data, h]
end Go.Proofs.YtomkgnamjfiocaaGreatDoor
