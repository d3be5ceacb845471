/- Contracts of EncodeHex and DecodeHex of both packages. -/
import Derived.Test.YtljggmgijadjaaaDoorNum
import Derived.Deep.RegionHeld3
namespace Go.Proofs.YtljggmgijadjaaaDoor.Hx
open Go.RowKit Go.ChangeShapes Go.WideShapes Go.ChangeAt Go.Deep
set_option linter.unusedVariables false

def hexDigits : List UInt8 := [48, 49, 50, 51, 52, 53, 54, 55, 56, 57, 97, 98, 99, 100, 101, 102]
def hexD (k : Nat) : UInt8 := hexDigits.getD k 0
def encHex (l : List UInt8) : List UInt8 := l.flatMap fun c => [hexD (c.toNat / 16), hexD (c.toNat % 16)]
theorem encHex_len (l : List UInt8) : (encHex l).length = 2 * l.length := by
  induction l with
  | nil => rfl
  | cons c l ih => simp [encHex, List.flatMap_cons] at *; omega
theorem encHex_snoc (s : ByteArray) (k : Nat) (h : k < s.size) : encHex (s.data.toList.take (k + 1)) = encHex (s.data.toList.take k) ++ [hexD (s[k].toNat / 16), hexD (s[k].toNat % 16)] := by
  rw [List.take_succ_eq_append_getElem (by simpa using h)]
  simp [encHex]
  exact ⟨rfl, rfl⟩
theorem app_u8 : AppTy Tryd.prog 31 5 (.int .u8 0) 1 1 := ⟨Tryd.underlying31, by kernel_rfl, rfl, by decide⟩

theorem dig_at (m : Nat) (h : m < (⟨#[48, 49, 50, 51, 52, 53, 54, 55, 56, 57, 97, 98, 99, 100, 101, 102]⟩ : ByteArray).size) : (⟨#[48, 49, 50, 51, 52, 53, 54, 55, 56, 57, 97, 98, 99, 100, 101, 102]⟩ : ByteArray)[m]'h = hexD m := by
  have h' : m < 16 := h
  have : m = 0 ∨ m = 1 ∨ m = 2 ∨ m = 3 ∨ m = 4 ∨ m = 5 ∨ m = 6 ∨ m = 7 ∨ m = 8 ∨ m = 9 ∨ m = 10 ∨ m = 11 ∨ m = 12 ∨ m = 13 ∨ m = 14 ∨ m = 15 := by omega
  rcases this with rfl | rfl | rfl | rfl | rfl | rfl | rfl | rfl | rfl | rfl | rfl | rfl | rfl | rfl | rfl | rfl <;> rfl
set_option maxRecDepth 20000 in
theorem implEncodeHex_any (s : ByteArray) (w : World) (hs : s.size ≤ 2000000) :
    Calls Tryd.prog 37 #[.string s] w fun e w' => e = .returned (.string ⟨(encHex s.data.toList).toArray⟩) ∧ Below w.heap.size w w' := by
  go_enter Tryd.func37, Tryd.ntmps37
  go_wp2
  go_loopw [3, 4] (fun v i wr => ∃ k : Nat, k ≤ s.size ∧ i = .int .i64 k ∧ wr.ownsRow w.heap.size 5 1 v (encHex (s.data.toList.take k)).length ((encHex (s.data.toList.take k)).map bv) ∧ Below w.heap.size w wr)
    (fun _ i _ => s.size - (intOf i).toNat)
  case atStart => 
    refine ⟨0, Nat.zero_le _, rfl, ?_, (Below.refl _ _).alloc (Nat.le_refl _) _⟩
    exact World.ownsRow_made _ _ _ (Nat.le_refl _) (by simp [maxLen]) (by simp)
  case round =>
    obtain ⟨k, hk, rfl, hown, hbel⟩ := hrel
    have hlen := encHex_len (s.data.toList.take k)
    have hl2 : (s.data.toList.take k).length ≤ k := List.length_take_le _ _
    by_cases hlt : k < s.size
    · have hsn := encHex_snoc s k hlt
      obtain ⟨c, hc⟩ : ∃ c, s[k] = c := ⟨_, rfl⟩
      rw [hc] at hsn
      have HS := Lib.hid hsn
      clear hsn
      have hb1 : (c.toNat : Int) < 256 := by have := c.toNat_lt; omega
      have eA : bits .and .u8 (c.toNat : Int) 15 = (c.toNat : Int) % 16 := by
        have := u8_and_nat c.toNat 15 (by omega) (by omega)
        rw [nat_mask4] at this
        exact this
      have d3 : (c.toNat : Int) % 16 < 16 := by omega
      go_wp2
      go_region_held3 (fun _ => True) (trivial) (first
        | (refine step_app _ app_u8 w.heap.size (.tmp 12) (.tmp 23) rfl rfl _ _ _ rfl (hown.drew.alloc _) _ _ 2 2 _ rfl (reads_new _ rfl) ?h1 ?h2 ?h3 ?h4 ?_
           case h1 => intro u hu; simp at hu; rcases hu with rfl | rfl <;> rfl
           case h2 => unfold maxLen; omega
           case h3 => omega
           case h4 => have := hbel.size; simp; omega
           intro v' w1 hown1 hg1 hat1))
      all_goals
        have hb2 : Below w.heap.size w w1 := (below_grown_own (hbel.drew.alloc (by have := hbel.size; simpa using this) _) (hown.drew.alloc _) hg1 (Nat.le_refl _) (by have := hbel.size; simp; omega))
        simp only [dig_at, show ((c.toNat : Int) / 16).toNat = c.toNat / 16 from by omega, show ((c.toNat : Int) % 16).toNat = c.toNat % 16 from by omega] at hown1
        go_wp2
        go_roundw
        case rel => exact ⟨k + 1, by omega, by go_num, by rw [HS.out, List.map_append, List.length_append]; exact hown1, hb2⟩
        case measure => simp [intOf]; omega
    · have hconv := run_str_own (P := Tryd.prog) (dst := 9) Tryd.underlying31 Tryd.underlying5 Tryd.underlying9 hown
      go_wp2
      go_ret
      exact ⟨by rw [List.take_of_length_le (by simp; omega)] <;> rfl, hbel⟩

end Go.Proofs.YtljggmgijadjaaaDoor.Hx
