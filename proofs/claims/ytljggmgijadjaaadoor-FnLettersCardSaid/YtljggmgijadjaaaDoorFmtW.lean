/- FormatWord of both packages. -/
import Derived.Test.YtljggmgijadjaaaDoorWord
import Derived.Test.YtljggmgijadjaaaDoorCp
import Derived.Test.YtljggmgijadjaaaDoorKp
import Derived.Test.YtljggmgijadjaaaDoorShelf
import Derived.Lib.Join
namespace Go.Proofs.YtljggmgijadjaaaDoor
open Go.RowKit Go.ChangeShapes Go.WideShapes Go.ChangeAt Go.Deep
set_option linter.unusedVariables false
def fmtWd (xs : List Int) : List UInt8 := if wordB xs then (if xs = [] then [40, 41] else Lib.join (xs.map fmtL) [32]) else []
theorem wordB_len {xs : List Int} (h : wordB xs = true) : xs.length ≤ 8 := by
  simp only [wordB, Bool.and_eq_true, decide_eq_true_eq] at h
  exact h.2
theorem fmtL_len (x : Int) : (fmtL x).length ≤ 2 := by
  unfold fmtL
  split
  · rename_i h
    have h' := inB_true.1 h
    have : x = 0 ∨ x = 1 ∨ x = 2 ∨ x = 3 ∨ x = 4 ∨ x = 5 ∨ x = 6 ∨ x = 7 ∨ x = 8 := by omega
    rcases this with rfl | rfl | rfl | rfl | rfl | rfl | rfl | rfl | rfl <;> decide
  · simp
theorem join_succ (Y : List (List UInt8)) (sep y : List UInt8) (k : Nat) (hy : Y[k]? = some y) : Lib.join (Y.take (k + 1)) sep = if k = 0 then y else Lib.join (Y.take k) sep ++ sep ++ y := by
  match Y, k, hy with
  | x :: r, 0, hy =>
    simp at hy
    subst hy
    simp [Lib.join_one]
  | x :: r, k + 1, hy =>
    rw [List.getElem?_cons_succ] at hy
    rw [List.take_succ_cons, List.take_succ_cons, Lib.join_cons, Lib.join_cons, Lib.joinTail_take_succ sep r k y hy]
    simp
theorem join_len2 : ∀ (Y : List (List UInt8)), (∀ y ∈ Y, y.length ≤ 2) → (Lib.join Y [32]).length ≤ 3 * Y.length
  | [], _ => by simp [Lib.join_nil]
  | x :: r, h => by
    rw [Lib.join_length]
    have : ∀ r : List (List UInt8), (∀ y ∈ r, y.length ≤ 2) → Lib.lens r ≤ 2 * r.length := by
      intro r
      induction r with
      | nil => intro _; simp [Lib.lens]
      | cons y r ih =>
        intro h
        have h1 := h y (by simp)
        have h2 := ih (fun z hz => h z (by simp [hz]))
        simp [Lib.lens] at h2 ⊢
        omega
    have := this (x :: r) h
    simp at this ⊢
    omega
theorem IRd.at_ {w : World} {A : Option Addr} {n k : Nat} {xs : List Int} (h : IRd w A n xs) (hk : k < n) : ∃ b o x, A = some ⟨b, o, none⟩ ∧ b < w.heap.size ∧ xs[k]? = some x ∧ w.cell? ⟨b, o + k, none⟩ = some (.int .i64 x) := by
  obtain ⟨⟨b, o, sp⟩, u, rfl, hb, hu, hc⟩ := h.rd.at_ hk
  have hl := h.ln
  have hv := iv_get hu (by omega)
  subst hv
  have h0 := (h.rd.2 (by omega))
  obtain ⟨ad, he, _, hcc⟩ := h0
  injection he with he
  subst he
  have hsp : sp = none := by
    have h0 := hcc 0 (iv xs[0]) (by rw [List.getElem?_map, List.getElem?_eq_getElem (by omega)]; rfl)
    simpa [Addr.add] using World.cell?_spot h0
  subst hsp
  rw [add_plain] at hc
  exact ⟨b, o, _, rfl, hb, List.getElem?_eq_getElem (by omega), hc⟩
theorem app_str : AppTy Tryd.prog 57 9 (.string ⟨#[]⟩) 1 16 := ⟨Tryd.underlying57, by kernel_rfl, rfl, by decide⟩
def sv (l : List UInt8) : Value := .string ⟨l.toArray⟩
theorem own_snoc_str {w : World} {base n : Nat} {e : TypeId} {v x : Value} {L : List (List UInt8)} (y : List UInt8) (hx : x = sv y) (h : w.ownsRow base e 1 v (n + 1) (L.map sv ++ x.cells.toList)) : w.ownsRow base e 1 v (n + 1) ((L ++ [y]).map sv) := by
  subst hx
  rw [List.map_append]
  exact h
theorem sv_one (l : List (List UInt8)) : ∀ u ∈ l.map sv, u.oneCell' = true := by
  intro u hu
  obtain ⟨x, _, rfl⟩ := List.mem_map.1 hu
  rfl
set_option maxRecDepth 4000 in
set_option maxHeartbeats 2000000 in
theorem implFormatWord_is (w : World) {A : Option Addr} {n c : Nat} {xs : List Int} (h : IRd w A n xs) :
    Calls Tryd.prog 25 #[.slice A n c] w fun e w' => e = .returned (.string ⟨(fmtWd xs).toArray⟩) ∧ Below w.heap.size w w' := by
  have hn := h.bd
  have HLN := Lib.hid h.ln
  obtain ⟨ok, hok⟩ : ∃ ok, wordB xs = ok := ⟨_, rfl⟩
  have hcall := implIsWord_any A n c xs w h.ln h.bd h.rd
  rw [hok] at hcall
  have HC := Lib.hid hcall
  have HOK := Lib.hid hok
  clear hcall hok
  go_enter Tryd.func25, Tryd.ntmps25
  go_wp2_with fail
  refine HC.out.mono ?_
  rintro e w' ⟨rfl, rfl⟩
  cases ok
  · have hE : fmtWd xs = [] := by simp [fmtWd, HOK.out]
    have HE := Lib.hid hE
    clear hE
    go_wp2
    go_ret
    exact ⟨by rw [HE.out] <;> rfl, Below.refl _ _⟩
  · by_cases h0 : n = 0
    · subst h0
      have hx : xs = [] := List.eq_nil_of_length_eq_zero HLN.out
      have hE : fmtWd xs = [40, 41] := by rw [hx]; rfl
      have HE := Lib.hid hE
      clear hE
      go_wp2
      go_ret
      exact ⟨by rw [HE.out] <;> rfl, Below.refl _ _⟩
    · have hx : xs ≠ [] := fun e => h0 (by have := HLN.out; rw [e] at this; simpa using this.symm)
      have hE : fmtWd xs = Lib.join (xs.map fmtL) [32] := by simp [fmtWd, HOK.out, hx]
      have HE := Lib.hid hE
      have h0' : ((n : Int) == 0) = false := by simp; omega
      have ho0 := own_made (w := w) (base := w.heap.size) 9 1 (Nat.le_refl _)
      have hB0 : Below w.heap.size w (w.alloc (.cells #[] 9)) := (Below.refl _ _).alloc (Nat.le_refl _) _
      clear hE hx
      go_wp2
      go_loopw [3, 17] (fun v i wr => ∃ k : Nat, k ≤ n ∧ i = .int .i64 k ∧ wr.ownsRow w.heap.size 9 1 v k (((xs.map fmtL).take k).map sv) ∧ Below w.heap.size w wr) (fun _ i _ => n - (intOf i).toNat)
      case atStart => exact ⟨0, Nat.zero_le _, rfl, ho0, hB0⟩
      case round =>
        obtain ⟨k, hk, rfl, hown, hB⟩ := hrel
        have hsz := hB.size
        by_cases hlt : k < n
        · obtain ⟨b, o, x, rfl, had, hx, hc⟩ := (h.up hB).at_ hlt
          have hlt' : (k : Int) < n := by omega
          have hk0 : (0 : Int) ≤ (k : Int) := by omega
          have hj : (xs.map fmtL).take (k + 1) = (xs.map fmtL).take k ++ [fmtL x] := by
            obtain ⟨h1, h2⟩ := List.getElem?_eq_some_iff.1 hx
            rw [List.take_succ_eq_append_getElem (by simpa using h1)]
            simp [h2]
          have HJ := Lib.hid hj
          have q3 : Small (k + 1) := small_of (by omega)
          have h15 := sv_one [fmtL x]
          clear hx hj
          go_wp2_with fail
          refine (implFormatL_any x _).mono ?_
          rintro r w6 ⟨rfl, hb6⟩
          have ho6 := own_below hown hb6 (Nat.le_refl _)
          have hB6 := below_then hB hb6
          have hs6 := hB6.size
          clear hown hb6 hc
          go_wp2_with (at_builtin; refine ap_plain _ app_str (by decide) w.heap.size (.tmp 21) (.tmp 24) rfl rfl _ _ _ rfl (ho6.alloc _) _ _ 1 1 _ rfl (reads_new _ rfl) h15 q3 (by simp; omega) ?_; intro v7 w7 hown7 hg7 hat7; have hB7 := below_grown_own (hB6.alloc hs6 _) (ho6.alloc _) hg7 (Nat.le_refl _) (by simp; omega); replace hown7 := own_snoc_str (fmtL x) rfl hown7; clear hg7 hat7)
          go_roundw
          case rel => exact ⟨k + 1, by omega, by go_num, by rw [HJ.out]; exact hown7, hB7⟩
          case measure => simp [intOf]; omega
        · obtain rfl : k = n := by omega
          have hlt' : ¬ (k : Int) < k := by omega
          have hl : (xs.map fmtL).length = k := by rw [List.length_map]; exact HLN.out
          rw [List.take_of_length_le (by omega)] at hown
          obtain ⟨g, c2, rfl, hgc, hgb⟩ : ∃ g c2, _ = Value.slice (some ⟨g, 0, none⟩) k c2 ∧ k ≤ c2 ∧ g < wr.heap.size := by
            obtain ⟨g, cap, hv, _, hlt2⟩ := hown.form (by omega)
            obtain ⟨_, _, he, hnc, _, _⟩ := own_form hown
            rw [hv] at he
            injection he with _ _ e3
            exact ⟨g, cap, hv, by omega, hlt2⟩
          obtain ⟨Y, hY⟩ : ∃ Y : List ByteArray, Y = (xs.map fmtL).map (fun l => ⟨l.toArray⟩) := ⟨_, rfl⟩
          have hYl : Y.length = k := by rw [hY, List.length_map, hl]
          have hYd : Y.map (·.data.toList) = xs.map fmtL := by rw [hY, List.map_map]; simp
          have hcells : ∀ (j : Nat) x, Y[j]? = some x → wr.cell? ⟨g, 0 + j, none⟩ = some (.string x) := by
            intro j x hj
            have hjk := (List.getElem?_eq_some_iff.1 hj).1
            rw [Nat.zero_add, hown.cellAt j (by omega), List.getElem?_map]
            rw [hY, List.getElem?_map] at hj
            cases he : (xs.map fmtL)[j]? with
            | none => rw [he] at hj; simp at hj
            | some l => rw [he] at hj; simp at hj; subst hj; rfl
          have hjl := join_len2 (xs.map fmtL) (fun y hy => by
            obtain ⟨x, _, rfl⟩ := List.mem_map.1 hy
            exact fmtL_len x)
          have hjoin := Tryd.strings_Join g 0 c2 Y ⟨#[32]⟩ wr hcells hgb (by omega) (by omega) (by rw [hYd]; simp only [List.length_map] at hjl; have := HLN.out; simp; omega)
          rw [hYl, hYd] at hjoin
          have HJN := Lib.hid hjoin
          clear hjoin hcells hY hYl hYd hown hjl
          go_wp2_with fail
          refine HJN.out.mono ?_
          rintro r w6 ⟨rfl, hb6⟩
          have hB6 := below_then hB hb6
          go_wp2
          go_ret
          exact ⟨by rw [HE.out] <;> rfl, hB6⟩
end Go.Proofs.YtljggmgijadjaaaDoor
