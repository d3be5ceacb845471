/- FormatWalk of both packages. -/
import Derived.Test.YtomkgnamjfiocaaGreatDoorFmtG
namespace Go.Proofs.YtomkgnamjfiocaaGreatDoor
open Go.RowKit Go.ChangeShapes Go.WideShapes Go.ChangeAt Go.Deep
set_option linter.unusedVariables false
theorem fmtS_len {s : St} (h : stOk s = true) : (fmtS s).length ≤ 12 := by
  have h' := inB_true.1 h
  have := itoa_len9 (n := s.ed) (by omega) (by omega)
  unfold fmtS
  split <;> simp <;> omega
theorem fmtSs_len : ∀ (l : List St), (∀ s ∈ l, stOk s = true) → (l.flatMap fmtS).length ≤ 12 * l.length
  | [], _ => by simp
  | x :: r, h => by
    have h1 := fmtSs_len r (fun v hv => h v (by simp [hv]))
    have h2 := fmtS_len (h x (by simp))
    simp only [List.flatMap_cons, List.length_append, List.length_cons] at h1 ⊢
    omega
theorem fmtSs_take {l : List St} {k : Nat} {s : St} (h : l[k]? = some s) : (l.take (k + 1)).flatMap fmtS = (l.take k).flatMap fmtS ++ fmtS s := by
  rw [List.take_add_one, h]
  simp
theorem all_take_succ {α : Type} {p : α → Bool} {l : List α} {k : Nat} {s : α} (h : l[k]? = some s) (h1 : (l.take k).all p = true) (h2 : p s = true) : (l.take (k + 1)).all p = true := by
  rw [List.take_add_one, h, List.all_append, h1]
  simp [h2]
theorem all_bad {α : Type} {p : α → Bool} {l : List α} {k : Nat} {s : α} (h : l[k]? = some s) (h2 : p s = false) : l.all p = false := by
  rw [List.all_eq_false]
  exact ⟨s, List.mem_of_getElem? h, by simp [h2]⟩
set_option maxRecDepth 4000 in
set_option maxHeartbeats 2000000 in
theorem implFormatWalk_is (w : World) (s : Int) {A : Option Addr} {n c : Nat} {l : List St} (h : SRd w A n l) (T : TabP w) :
    Calls Tryz.prog 22 #[.agg #[.int .i64 s, .slice A n c]] w fun e w' => e = .returned (.string ⟨(fmtWk s l).toArray⟩) ∧ Below w.heap.size w w' := by
  have HB : Below w.heap.size w (w.alloc (.cells #[.int .i64 s, .slice A n c] 30)) := (Below.refl _ _).alloc (Nat.le_refl _) _
  have XB := Blk.new w 30 #[.int .i64 s, .slice A n c]
  have h0 := h.up HB
  have T0 := T.up HB
  have HLN := Lib.hid h.ln
  have hn := h.bd
  have k0 := XB.kc (v := .int .i64 s) 0 rfl
  have k1 := XB.kc (v := .slice A n c) 1 rfl
  clear XB
  generalize hw0 : w.alloc (.cells #[.int .i64 s, .slice A n c] 30) = w0 at *
  obtain ⟨y0, hy0⟩ : ∃ y : Kept w0, w0 = y.W := ⟨⟨w0, Below.refl _ _⟩, rfl⟩
  have hw := hw0.trans hy0
  clear hw0 hy0
  have HB0 := below_then HB y0.be
  by_cases hin : inB s 0 4 = true
  · by_cases h60 : n ≤ 60
    · have hin2 := inB_true.1 hin
      have hd60 : ¬ (n : Int) > 60 := by omega
      obtain ⟨J, hJ⟩ : ∃ J : ByteArray, (⟨(Lib.itoa s).toArray⟩ : ByteArray) = J := ⟨_, rfl⟩
      have hJl : J.size ≤ 10 := by rw [← hJ, mk_size]; exact itoa_len9 (by omega) (by omega)
      have HJ : RowKit.Hid (J.data.toList = Lib.itoa s) := Lib.hid (by rw [← hJ])
      have HI : RowKit.Hid (∀ W : Kept w0, Calls Tryz.prog 56 #[.int .i64 s] W.W fun r w' => r = .returned (.string J) ∧ Below W.W.heap.size W.W w') := Lib.hid (fun W => by rw [← hJ]; exact implFormatInt_any W.W (T0.kept W) s ⟨by omega, by omega⟩)
      have HE : RowKit.Hid (l.all stOk = true → fmtWk s l = Lib.itoa s ++ l.flatMap fmtS) := Lib.hid (fun ha => by unfold fmtWk; rw [if_pos (by simp [hin, ha, h60, h.ln])])
      have HX : RowKit.Hid (l.all stOk = false → fmtWk s l = []) := Lib.hid (fun ha => by unfold fmtWk; rw [if_neg (by simp [ha])])
      clear hJ
      go_enter Tryz.func22, Tryz.ntmps22
      go_wp2_with (go_at_call 55; refine (within_any _ _ _ _).mono ?_; rintro e w' ⟨rfl, rfl⟩)
      clear hw
      go_wp2_with fail
      refine (HI.out _).mono ?_
      rintro r w1 ⟨rfl, hb1⟩
      obtain ⟨y1, rfl⟩ := y0.of hb1
      clear hb1
      go_wp2
      go_loopw [3, 22] (fun v i wr => ∃ (k : Nat) (z : Kept w0) (S : ByteArray), wr = z.W ∧ k ≤ n ∧ i = .int .i64 k ∧ v = .string S ∧ (l.take k).all stOk = true ∧ S.data.toList = Lib.itoa s ++ (l.take k).flatMap fmtS) (fun _ i _ => n - (intOf i).toNat)
      case atStart => exact ⟨0, y1, J, rfl, Nat.zero_le _, rfl, rfl, rfl, by rw [HJ.out]; simp⟩
      case round =>
        clear hJl HJ HI
        obtain ⟨k, z, S, rfl, hk, rfl, rfl, hall, hS⟩ := hrel
        have hSl : S.size ≤ 800 := by
          have h1 := fmtSs_len (l.take k) (fun x hx => List.all_eq_true.1 hall x hx)
          rw [List.length_take] at h1
          have h2 := itoa_len9 (n := s) (by omega) (by omega)
          rw [Lib.size_eq, hS, List.length_append]
          omega
        have HS := Lib.hid hS
        have HA := Lib.hid hall
        have hzb := below_then HB z.be
        clear hS hall
        by_cases hlt : k < n
        · obtain ⟨b, o, rfl, had, x, hx, c0, c1⟩ := step_at h0.rd h0.ln hlt
          have c0' := Kept.cell c0
          have c1' := Kept.cell c1
          have hlt' : (k : Int) < n := by omega
          have hk0 : (0 : Int) ≤ (k : Int) := by omega
          obtain ⟨z5, hz5⟩ := z.of ((Below.refl z.W.heap.size z.W).alloc (Nat.le_refl _) (.cells #[.int .i64 x.ed, .bool x.inv] 68))
          have X5 := Blk.new z.W 68 #[.int .i64 x.ed, .bool x.inv]
          rw [hz5] at X5
          have p0 := X5.cell 0
          have p1 := X5.cell 1
          have hz5b := below_then HB z5.be
          cases hok : inB x.ed 1 99
          · have hE := HX.out (all_bad hx hok)
            have HE2 := Lib.hid hE
            clear hE hx c0 c1
            go_wp2_with (go_at_call 55; refine (within_any _ _ _ _).mono ?_; rintro e w' ⟨rfl, rfl⟩)
            go_ret
            exact ⟨by rw [HE2.out] <;> rfl, hz5b⟩
          · have hok2 := inB_true.1 hok
            have HT := Lib.hid (fmtSs_take hx)
            have HA2 := Lib.hid (all_take_succ hx HA.out (show stOk x = true from hok))
            obtain ⟨J, hJ⟩ : ∃ J : ByteArray, (⟨(Lib.itoa x.ed).toArray⟩ : ByteArray) = J := ⟨_, rfl⟩
            have hJl : J.size ≤ 10 := by rw [← hJ, mk_size]; exact itoa_len9 (by omega) (by omega)
            have HJ : RowKit.Hid (J.data.toList = Lib.itoa x.ed) := Lib.hid (by rw [← hJ])
            have HI : RowKit.Hid (∀ W : Kept w0, Calls Tryz.prog 56 #[.int .i64 x.ed] W.W fun r w' => r = .returned (.string J) ∧ Below W.W.heap.size W.W w') := Lib.hid (fun W => by rw [← hJ]; exact implFormatInt_any W.W (T0.kept W) x.ed ⟨by omega, by omega⟩)
            have g1 : ¬ 9223372036854775807 < S.size + 1 := by omega
            have g2 : ¬ 9223372036854775807 < S.size + 1 + J.size := by omega
            have g3 : ¬ 9223372036854775807 < S.size + 1 + J.size + 1 := by omega
            have g4 : ¬ 9223372036854775807 < 1 + J.size := by omega
            have g5 : ¬ 9223372036854775807 < S.size + (1 + J.size) := by omega
            have g6 : ¬ 9223372036854775807 < S.size + (1 + J.size) + 1 := by omega
            clear hx c0 c1 hJ
            go_wp2_with (go_at_call 55; refine (within_any _ _ _ _).mono ?_; rintro e w' ⟨rfl, rfl⟩)
            refine (HI.out _).mono ?_
            rintro r w6 ⟨rfl, hb6⟩
            have p1b := (X5.below hb6 X5.lt).cell 1
            obtain ⟨z6, rfl⟩ := z5.of hb6
            clear hb6
            cases hinv : x.inv
            all_goals
              have HV := Lib.hid hinv
              rw [hinv] at p1b
              clear hz5
              go_wp2_with fail
              go_roundw
              case rel => exact ⟨k + 1, z6, _, rfl, by omega, by go_num, rfl, HA2.out, by rw [HT.out, ← List.append_assoc, ← HS.out]; simp [fmtS, HV.out, ← HJ.out]⟩
              case measure => simp [intOf]; omega
        · obtain rfl : k = n := by omega
          have hlt' : ¬ (k : Int) < k := by omega
          have hS3 := HS.out
          have hA3 := HA.out
          rw [List.take_of_length_le (by have := HLN.out; omega)] at hS3 hA3
          rw [← HE.out hA3] at hS3
          have HS3 := Lib.hid (ba_of S _ hS3)
          clear hS3 hA3 HS HA
          go_wp2
          go_ret
          exact ⟨by rw [HS3.out] <;> rfl, hzb⟩
    · have hE : fmtWk s l = [] := by unfold fmtWk; rw [if_neg (by simp [h.ln, h60])]
      have HE := Lib.hid hE
      have hd60 : (n : Int) > 60 := by omega
      clear hE
      go_enter Tryz.func22, Tryz.ntmps22
      go_wp2_with (go_at_call 55; refine (within_any _ _ _ _).mono ?_; rintro e w' ⟨rfl, rfl⟩)
      go_ret
      exact ⟨by rw [HE.out] <;> rfl, HB0⟩
  · have hin3 : inB s 0 4 = false := by simpa using hin
    have hE : fmtWk s l = [] := by unfold fmtWk; rw [if_neg (by simp [hin3])]
    have HE := Lib.hid hE
    clear hE hin
    go_enter Tryz.func22, Tryz.ntmps22
    go_wp2_with (go_at_call 55; refine (within_any _ _ _ _).mono ?_; rintro e w' ⟨rfl, rfl⟩)
    go_ret
    exact ⟨by rw [HE.out] <;> rfl, HB0⟩
end Go.Proofs.YtomkgnamjfiocaaGreatDoor
