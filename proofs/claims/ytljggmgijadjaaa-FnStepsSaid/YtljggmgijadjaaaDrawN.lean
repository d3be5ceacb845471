/- A new cursor; a node drawn; membership in a list of ints. -/
import Derived.Test.YtljggmgijadjaaaDraw
namespace Go.Proofs.Ytljggmgijadjaaa
open Go.RowKit Go.ChangeShapes Go.WideShapes Go.ChangeAt Go.Deep
set_option linter.unusedVariables false
set_option maxRecDepth 8000 in
set_option maxHeartbeats 1000000 in
theorem l1New_any (w : World) {A : Option Addr} {n c : Nat} {bs : List UInt8} (hl : bs.length = n) (hr : Reads w w.heap.size 1 A n (bs.map byv)) (hn : n ≤ 1048576) :
    Calls Try.prog 18 #[.slice A n c] w fun e w' => ∃ cb, e = .returned (.pointer (some ⟨cb, 0, none⟩)) ∧ w.heap.size ≤ cb ∧ Cur w' cb ∧ Below w.heap.size w w' := by
  go_enter Try.func18, Try.ntmps18
  go_wp2
  go_loopw [3, 4] (fun h i wr => wr = w ∧ ∃ (z : Int) (k : Nat), h = .int .i64 z ∧ i = .int .i64 k ∧ k ≤ n) (fun _ i _ => n - (intOf i).toNat)
  case atStart => exact ⟨rfl, _, 0, rfl, rfl, Nat.zero_le _⟩
  case round =>
    obtain ⟨rfl, z, k, rfl, rfl, hk⟩ := hrel
    have hb : Below wr.heap.size wr (wr.alloc (.cells #[.slice A n c, .int .i64 0, .int .i64 z] 57)) := (Below.refl _ _).alloc (Nat.le_refl _) _
    have X := Blk.new wr 57 #[.slice A n c, .int .i64 0, .int .i64 z]
    have R := reads_up hr hb
    have C : Cur (wr.alloc (.cells #[.slice A n c, .int .i64 0, .int .i64 z] 57)) wr.heap.size := ⟨A, n, c, 0, z, bs, hn, Nat.zero_le _, hl, X, by
      refine ⟨hr.1, fun h0 => ?_⟩
      obtain ⟨ad, e1, e2, e3⟩ := hr.2 h0
      exact ⟨ad, e1, e2, fun j u hu => cell_keep hb (e3 j u hu)⟩⟩
    clear X R
    by_cases hlt : k < n
    · have hlt' : (k : Int) < n := by omega
      have hd : decide ((k : Int) < n) = true := by simpa using hlt'
      by_cases h4 : (k : Int) < 4000
      · have hd4 : decide ((k : Int) < 4000) = true := by simpa using h4
        obtain ⟨b, o, rfl, hbb, x, hx0, hx1, hc⟩ := byte_at hr hl hlt
        have hk0 : (0 : Int) ≤ (k : Int) := by omega
        clear hb C
        go_wp2
        go_roundw
        case rel => exact ⟨trivial, _, k + 1, rfl, by go_num, by omega⟩
        case measure => simp [intOf]; omega
      · have hd4 : decide ((k : Int) < 4000) = false := by simpa using h4
        go_wp2
        go_ret
        exact ⟨_, rfl, Nat.le_refl _, C, hb⟩
    · have hlt' : ¬ (k : Int) < n := by omega
      have hd : decide ((k : Int) < n) = false := by simpa using hlt'
      go_wp2
      go_ret
      exact ⟨_, rfl, Nat.le_refl _, C, hb⟩
def hasI (l : List Int) (k : Nat) (x : Int) : Bool := (l.take k).any (· == x)
theorem hasI_succ {l : List Int} {k : Nat} {x y : Int} (h : l[k]? = some y) : hasI l (k + 1) x = (hasI l k x || (y == x)) := by
  obtain ⟨hk, rfl⟩ := List.getElem?_eq_some_iff.1 h
  unfold hasI
  rw [List.take_succ_eq_append_getElem hk, List.any_append]
  simp
theorem hasI_full {l : List Int} {x : Int} {k : Nat} (h : hasI l k x = true) : l.any (· == x) = true := by
  unfold hasI at h
  rw [List.any_eq_true] at h ⊢
  obtain ⟨y, hy, he⟩ := h
  exact ⟨y, List.mem_of_mem_take hy, he⟩
set_option maxRecDepth 4000 in
set_option maxHeartbeats 1000000 in
theorem has_is (w : World) {A : Option Addr} {n c : Nat} {l : List Int} (h : IRd w A n l) (x : Int) :
    Calls Try.prog 12 #[.slice A n c, .int .i64 x] w fun e w' => e = .returned (.bool (l.any (· == x))) ∧ w' = w := by
  have hn := h.bd
  have HL := Lib.hid h.ln
  obtain ⟨t, ht⟩ : ∃ t, l.any (· == x) = t := ⟨_, rfl⟩
  have HT := Lib.hid ht
  rw [ht]
  clear ht
  go_enter Try.func12, Try.ntmps12
  go_wp2
  go_loopw [5] (fun i wr => wr = w ∧ ∃ k : Nat, k ≤ n ∧ i = .int .i64 k ∧ hasI l k x = false) (fun i _ => n - (intOf i).toNat)
  case atStart => exact ⟨rfl, 0, Nat.zero_le _, rfl, rfl⟩
  case round =>
    obtain ⟨rfl, k, hk, rfl, hF⟩ := hrel
    have HF := Lib.hid hF
    clear hF
    by_cases hlt : k < n
    · obtain ⟨ad, u, rfl, hb, hu, hc⟩ := h.rd.at_ hlt
      have hv := iv_get hu (by rw [HL.out]; exact hlt)
      obtain ⟨y, hy⟩ : ∃ y, l[k]? = some y := ⟨_, List.getElem?_eq_getElem (by rw [HL.out]; exact hlt)⟩
      have hyy : u = .int .i64 y := by rw [List.getElem?_map, hy] at hu; simpa [iv] using hu.symm
      subst hyy
      have HS := Lib.hid (hasI_succ (x := x) hy)
      have hlt' : (k : Int) < n := by omega
      have hk0 : (0 : Int) ≤ (k : Int) := by omega
      clear hu hy hv
      by_cases hyx : y = x
      · have he : (y == x) = true := by simp [hyx]
        have hfull := hasI_full (show hasI l (k + 1) x = true by rw [HS.out, he]; simp)
        have HX := Lib.hid (HT.out.symm.trans hfull)
        clear hfull
        subst hyx
        go_wp2
        go_ret
        exact ⟨by rw [HX.out] <;> rfl, rfl⟩
      · have he : (y == x) = false := by simp [hyx]
        have HN := Lib.hid (show hasI l (k + 1) x = false by rw [HS.out, he, HF.out]; rfl)
        go_wp2
        go_roundw
        case rel => exact ⟨trivial, k + 1, by omega, by go_num, HN.out⟩
        case measure => simp [intOf]; omega
    · obtain rfl : k = n := by omega
      have hlt' : ¬ (k : Int) < k := by omega
      have hX := HF.out
      unfold hasI at hX
      rw [List.take_of_length_le (by have := HL.out; omega)] at hX
      have HX := Lib.hid (HT.out.symm.trans hX)
      clear hX
      go_wp2
      go_ret
      exact ⟨by rw [HX.out] <;> rfl, rfl⟩
end Go.Proofs.Ytljggmgijadjaaa
