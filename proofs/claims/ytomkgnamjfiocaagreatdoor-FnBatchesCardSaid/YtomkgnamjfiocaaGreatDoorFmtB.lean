/- FormatBatch of both packages. -/
import Derived.Test.YtomkgnamjfiocaaGreatDoorFmtWk
namespace Go.Proofs.YtomkgnamjfiocaaGreatDoor
open Go.RowKit Go.ChangeShapes Go.WideShapes Go.ChangeAt Go.Deep
set_option linter.unusedVariables false
theorem fmtC_len (c : Cg) : (fmtC c).length ≤ 17 := by
  have := fmtE_len c.e
  unfold fmtC
  simp
  omega
theorem fmtCs_len : ∀ (l : List Cg), (Lib.join (l.map fmtC) [32]).length ≤ 18 * l.length
  | [] => by simp [Lib.join_nil]
  | x :: r => by
    rw [List.map_cons, Lib.join_length]
    have : ∀ r : List Cg, Lib.lens (r.map fmtC) ≤ 17 * r.length := by
      intro r
      induction r with
      | nil => simp [Lib.lens]
      | cons y r ih =>
        have h1 := fmtC_len y
        simp [Lib.lens] at ih ⊢
        omega
    have := this (x :: r)
    simp at this ⊢
    omega
def cgOk (c : Cg) : Bool := okE 5 c.e
theorem fmtCs_take {l : List Cg} {k : Nat} {s : Cg} (h : l[k]? = some s) : Lib.join ((l.take (k + 1)).map fmtC) [32] = if k = 0 then fmtC s else Lib.join ((l.take k).map fmtC) [32] ++ [32] ++ fmtC s := by
  have := join_succ (l.map fmtC) [32] (fmtC s) k (by rw [List.getElem?_map, h]; rfl)
  rwa [List.map_take, List.map_take] 
set_option maxRecDepth 4000 in
set_option maxHeartbeats 2000000 in
theorem specFormatBatch_is (w : World) {A : Option Addr} {n c : Nat} {l : List Cg} (h : CRd w A n l) :
    Calls Tryz.prog 37 #[.agg #[.slice A n c]] w fun e w' => e = .returned (.string ⟨(fmtBt l).toArray⟩) ∧ Below w.heap.size w w' := by
  have HB : Below w.heap.size w (w.alloc (.cells #[.slice A n c] 47)) := (Below.refl _ _).alloc (Nat.le_refl _) _
  have XB := Blk.new w 47 #[.slice A n c]
  have h0 := h.up HB
  have HLN := Lib.hid h.ln
  have hn := h.bd
  have k0 := XB.kc (v := .slice A n c) 0 rfl
  clear XB
  generalize hw0 : w.alloc (.cells #[.slice A n c] 47) = w0 at *
  obtain ⟨y0, hy0⟩ : ∃ y : Kept w0, w0 = y.W := ⟨⟨w0, Below.refl _ _⟩, rfl⟩
  have hw := hw0.trans hy0
  clear hw0 hy0
  have HB0 := below_then HB y0.be
  by_cases h60 : n ≤ 6
  · have hd60 : ¬ (n : Int) > 6 := by omega
    have HE : RowKit.Hid (l.all cgOk = true → fmtBt l = Lib.join (l.map fmtC) [32]) := Lib.hid (fun ha => by unfold fmtBt; rw [if_pos (by simp only [Bool.and_eq_true, decide_eq_true_eq]; exact ⟨by rw [h.ln]; exact h60, ha⟩)])
    have HX : RowKit.Hid (l.all cgOk = false → fmtBt l = []) := Lib.hid (fun ha => by unfold fmtBt; rw [if_neg (by simp only [Bool.and_eq_true]; intro hh; have h2 : l.all cgOk = true := hh.2; rw [ha] at h2; cases h2)])
    go_enter Tryz.func37, Tryz.ntmps37
    go_wp2
    clear hw
    go_loopw [3, 4] (fun v i wr => ∃ (k : Nat) (z : Kept w0) (S : ByteArray), wr = z.W ∧ k ≤ n ∧ i = .int .i64 k ∧ v = .string S ∧ (l.take k).all cgOk = true ∧ S.data.toList = Lib.join ((l.take k).map fmtC) [32]) (fun _ i _ => n - (intOf i).toNat)
    case atStart => exact ⟨0, y0, ⟨#[]⟩, rfl, Nat.zero_le _, rfl, rfl, rfl, rfl⟩
    case round =>
      obtain ⟨k, z, S, rfl, hk, rfl, rfl, hall, hS⟩ := hrel
      have hSl : S.size ≤ 200 := by
        have h1 := fmtCs_len (l.take k)
        rw [List.length_take] at h1
        rw [Lib.size_eq, hS]
        omega
      have HS := Lib.hid hS
      have HA := Lib.hid hall
      have hzb := below_then HB z.be
      clear hS hall
      by_cases hlt : k < n
      · obtain ⟨b, o, rfl, had, x, hx, c0, c1, c2, c3, c4⟩ := change_at h0.rd h0.ln hlt
        have c0' := Kept.cell c0
        have c1' := Kept.cell c1
        have c2' := Kept.cell c2
        have c3' := Kept.cell c3
        have c4' := Kept.cell c4
        have hlt' : (k : Int) < n := by omega
        have hk0 : (0 : Int) ≤ (k : Int) := by omega
        obtain ⟨J, hJ⟩ : ∃ J : ByteArray, (⟨(fmtE x.e).toArray⟩ : ByteArray) = J := ⟨_, rfl⟩
        have hJl : J.size ≤ 16 := by rw [← hJ, mk_size]; exact fmtE_len x.e
        have HJ : RowKit.Hid (J.data.toList = fmtE x.e) := Lib.hid (by rw [← hJ])
        have HI : RowKit.Hid (∀ W : Kept w0, Calls Tryz.prog 83 #[.agg #[.int .i64 x.e.id, .int .i64 x.e.fr, .int .i64 x.e.to, .int .i64 x.e.lb]] W.W fun r w' => r = .returned (.string J) ∧ Below W.W.heap.size W.W w') := Lib.hid (fun W => by rw [← hJ]; exact specFormatEdge_any W.W x.e)
        cases hok : okE 5 x.e
        · have hE := HX.out (all_bad (p := cgOk) hx hok)
          have HE2 := Lib.hid hE
          have hJ0 : J.toList = [] := by rw [ByteArray.toList_eq, HJ.out, fmtE_bad (by simp [hok])]
          clear hE hx c0 c1 c2 c3 c4 hJ
          go_wp2_with fail
          refine (HI.out _).mono ?_
          rintro r w6 ⟨rfl, hb6⟩
          obtain ⟨z6, rfl⟩ := z.of hb6
          clear hb6
          have hz6b := below_then HB z6.be
          go_wp2
          go_ret
          exact ⟨by rw [HE2.out] <;> rfl, hz6b⟩
        · have HT := Lib.hid (fmtCs_take hx)
          have HA2 := Lib.hid (all_take_succ (p := cgOk) hx HA.out hok)
          have hJ0 : (J.toList == ([] : List UInt8)) = false := by rw [beq_eq_false_iff_ne, ByteArray.toList_eq, HJ.out]; exact fmtE_ne hok
          have g1 : ¬ 9223372036854775807 < S.size + 1 := by omega
          have g2 : ¬ 9223372036854775807 < S.size + 1 + 1 := by omega
          have g3 : ¬ 9223372036854775807 < S.size + 1 + 1 + J.size := by omega
          have g4 : ¬ 9223372036854775807 < S.size + 1 + J.size := by omega
          clear hx c0 c1 c2 c3 c4 hJ
          rcases Nat.eq_zero_or_pos k with hk1 | hk1
          · have hk2 : ¬ 0 < k := by omega
            have HK1 := Lib.hid hk1
            clear hk1
            cases hinv : x.ins
            all_goals
              have HV := Lib.hid hinv
              rw [hinv] at c0'
              go_wp2_with fail
              refine (HI.out _).mono ?_
              rintro r w6 ⟨rfl, hb6⟩
              obtain ⟨z6, rfl⟩ := z.of hb6
              clear hb6
              go_wp2_with fail
              go_roundw
              case rel =>
                refine ⟨k + 1, z6, _, rfl, by omega, by go_num, rfl, HA2.out, ?_⟩
                rw [HT.out, if_pos HK1.out]
                have h1 := HS.out
                rw [HK1.out] at h1
                simp [Lib.join_nil] at h1
                simp [h1, fmtC, HV.out, ← HJ.out]
              case measure => simp [intOf]; omega
          · have hk2 : 0 < k := hk1
            cases hinv : x.ins
            all_goals
              have HV := Lib.hid hinv
              rw [hinv] at c0'
              go_wp2_with fail
              refine (HI.out _).mono ?_
              rintro r w6 ⟨rfl, hb6⟩
              obtain ⟨z6, rfl⟩ := z.of hb6
              clear hb6
              go_wp2_with fail
              go_roundw
              case rel =>
                refine ⟨k + 1, z6, _, rfl, by omega, by go_num, rfl, HA2.out, ?_⟩
                rw [HT.out, if_neg (by omega), ← HS.out]
                simp [fmtC, HV.out, ← HJ.out]
              case measure => simp [intOf]; omega
      · obtain rfl : k = n := by omega
        have hlt' : ¬ (k : Int) < k := by omega
        have hS3 := HS.out
        have hA3 := HA.out
        rw [List.take_of_length_le (by have := HLN.out; omega)] at hS3 hA3
        rw [← HE.out hA3] at hS3
        have HS3 := Lib.hid (ba_of S _ hS3)
        clear hS3 hA3 HS HA
        go_wp2
        go_ret
        exact ⟨by rw [HS3.out] <;> rfl, hzb⟩
  · have hE : fmtBt l = [] := by unfold fmtBt; rw [if_neg (by simp [h.ln, h60])]
    have HE := Lib.hid hE
    have hd60 : (n : Int) > 6 := by omega
    clear hE
    go_enter Tryz.func37, Tryz.ntmps37
    go_wp2
    go_ret
    exact ⟨by rw [HE.out] <;> rfl, HB0⟩
theorem signed_sv (q : UInt8) (J : ByteArray) (c : Cg) (hJ : J.data.toList = fmtE c.e) (hq : q = if c.ins then 43 else 45) : Value.string (⟨#[q]⟩ ++ J) = sv (fmtC c) := by
  unfold sv fmtC
  rw [← hJ, ← hq]
  exact congrArg Value.string (ba_ext (by simp))
set_option maxRecDepth 4000 in
set_option maxHeartbeats 2000000 in
theorem implFormatBatch_is (w : World) {A : Option Addr} {n c : Nat} {l : List Cg} (h : CRd w A n l) (T : TabP w) :
    Calls Tryz.prog 35 #[.agg #[.slice A n c]] w fun e w' => e = .returned (.string ⟨(fmtBt l).toArray⟩) ∧ Below w.heap.size w w' := by
  have HB : Below w.heap.size w (w.alloc (.cells #[.slice A n c] 47)) := (Below.refl _ _).alloc (Nat.le_refl _) _
  have XB := Blk.new w 47 #[.slice A n c]
  have h0 := h.up HB
  have T0 := T.up HB
  have HLN := Lib.hid h.ln
  have hn := h.bd
  have k0 := XB.kc (v := .slice A n c) 0 rfl
  clear XB
  generalize hw0 : w.alloc (.cells #[.slice A n c] 47) = w0 at *
  by_cases h60 : n ≤ 6
  · have hd60 : ¬ (n : Int) > 6 := by omega
    have HE : RowKit.Hid (l.all cgOk = true → fmtBt l = Lib.join (l.map fmtC) [32]) := Lib.hid (fun ha => by unfold fmtBt; rw [if_pos (by simp only [Bool.and_eq_true, decide_eq_true_eq]; exact ⟨by rw [h.ln]; exact h60, ha⟩)])
    have HX : RowKit.Hid (l.all cgOk = false → fmtBt l = []) := Lib.hid (fun ha => by unfold fmtBt; rw [if_neg (by simp only [Bool.and_eq_true]; intro hh; have h2 : l.all cgOk = true := hh.2; rw [ha] at h2; cases h2)])
    obtain ⟨y0, hy0⟩ : ∃ y : Kept w0, w0 = y.W := ⟨⟨w0, Below.refl _ _⟩, rfl⟩
    have hw := hw0.trans hy0
    clear hw0
    have ho0 := own_made (w := y0.W) (base := w0.heap.size) 9 1 y0.be.size
    obtain ⟨y1, hy1⟩ := y0.of ((Below.refl y0.W.heap.size y0.W).alloc (Nat.le_refl _) (.cells #[] 9))
    rw [hy1] at ho0
    clear hy0
    go_enter Tryz.func35, Tryz.ntmps35
    go_wp2
    clear hw hy1
    go_loopw [3, 15] (fun v i wr => ∃ (k : Nat) (z : Kept w0), wr = z.W ∧ k ≤ n ∧ i = .int .i64 k ∧ z.W.ownsRow w0.heap.size 9 1 v k (((l.take k).map fmtC).map sv) ∧ (l.take k).all cgOk = true) (fun _ i _ => n - (intOf i).toNat)
    case atStart => exact ⟨0, y1, rfl, Nat.zero_le _, rfl, ho0, rfl⟩
    case round =>
      clear ho0
      obtain ⟨k, z, rfl, hk, rfl, hown, hall⟩ := hrel
      have HA := Lib.hid hall
      have hzb := below_then HB z.be
      have hzs := z.be.size
      clear hall
      by_cases hlt : k < n
      · obtain ⟨b, o, rfl, had, x, hx, c0, c1, c2, c3, c4⟩ := change_at h0.rd h0.ln hlt
        have c0' := Kept.cell c0
        have c1' := Kept.cell c1
        have c2' := Kept.cell c2
        have c3' := Kept.cell c3
        have c4' := Kept.cell c4
        have hlt' : (k : Int) < n := by omega
        have hk0 : (0 : Int) ≤ (k : Int) := by omega
        obtain ⟨J, hJ⟩ : ∃ J : ByteArray, (⟨(fmtE x.e).toArray⟩ : ByteArray) = J := ⟨_, rfl⟩
        have hJl : J.size ≤ 16 := by rw [← hJ, mk_size]; exact fmtE_len x.e
        have hJe : J.data.toList = fmtE x.e := by rw [← hJ]
        have HJ := Lib.hid hJe
        have HI : RowKit.Hid (∀ W : Kept w0, Calls Tryz.prog 80 #[.agg #[.int .i64 x.e.id, .int .i64 x.e.fr, .int .i64 x.e.to, .int .i64 x.e.lb]] W.W fun r w' => r = .returned (.string J) ∧ Below W.W.heap.size W.W w') := Lib.hid (fun W => by rw [← hJ]; exact implFormatEdge_any W.W (T0.kept W) x.e)
        obtain ⟨z5, hz5⟩ := z.of ((Below.refl z.W.heap.size z.W).alloc (Nat.le_refl _) (.cells #[.bool x.ins, .int .i64 x.e.id, .int .i64 x.e.fr, .int .i64 x.e.to, .int .i64 x.e.lb] 92))
        have ho5 := own_below hown ((Below.refl z.W.heap.size z.W).alloc (Nat.le_refl _) (.cells #[.bool x.ins, .int .i64 x.e.id, .int .i64 x.e.fr, .int .i64 x.e.to, .int .i64 x.e.lb] 92)) (Nat.le_refl _)
        have X5 := Blk.new z.W 92 #[.bool x.ins, .int .i64 x.e.id, .int .i64 x.e.fr, .int .i64 x.e.to, .int .i64 x.e.lb]
        rw [hz5] at X5 ho5
        have p0 := X5.cell 0
        have p1 := X5.cell 1
        have p2 := X5.cell 2
        have p3 := X5.cell 3
        have p4 := X5.cell 4
        clear hown hJ hJe
        cases hok : okE 5 x.e
        · have hE := HX.out (all_bad (p := cgOk) hx hok)
          have HE2 := Lib.hid hE
          have hJ0 : J.toList = [] := by rw [ByteArray.toList_eq, HJ.out, fmtE_bad (by simp [hok])]
          clear hE hx c0 c1 c2 c3 c4 ho5
          go_wp2_with fail
          refine (HI.out _).mono ?_
          rintro r w6 ⟨rfl, hb6⟩
          obtain ⟨z6, rfl⟩ := z5.of hb6
          clear hb6
          have hz6b := below_then HB z6.be
          go_wp2
          go_ret
          exact ⟨by rw [HE2.out] <;> rfl, hz6b⟩
        · have hj : (l.take (k + 1)).map fmtC = (l.take k).map fmtC ++ [fmtC x] := by
            rw [List.take_add_one, hx]
            simp
          have HT := Lib.hid hj
          have HA2 := Lib.hid (all_take_succ (p := cgOk) hx HA.out hok)
          have hJ0 : (J.toList == ([] : List UInt8)) = false := by rw [beq_eq_false_iff_ne, ByteArray.toList_eq, HJ.out]; exact fmtE_ne hok
          have g1 : ¬ 9223372036854775807 < 1 + J.size := by omega
          have q3 : Small (k + 1) := small_of (by omega)
          have h15 := sv_one [fmtC x]
          clear hx c0 c1 c2 c3 c4 hj
          go_wp2_with fail
          refine (HI.out _).mono ?_
          rintro r w6 ⟨rfl, hb6⟩
          have ho6 := own_below ho5 hb6 (Nat.le_refl _)
          have r0 := (X5.below hb6 X5.lt).cell 0
          obtain ⟨z6, rfl⟩ := z5.of hb6
          have hs6 := z6.be.size
          clear hb6 ho5 hz5 p0 p1 p2 p3 p4 X5
          cases hinv : x.ins
          · have hs1 := Lib.hid (signed_sv 45 J x HJ.out (by rw [hinv]; rfl))
            rw [hinv] at r0
            go_wp2_with (at_builtin; refine ap_plain _ app_str (by decide) w0.heap.size (.tmp 31) (.tmp 34) rfl rfl _ _ _ rfl (ho6.alloc _) _ _ 1 1 _ rfl (reads_new _ rfl) (by intro u hu; rw [hs1.out] at hu; exact h15 u hu) q3 (by simp; omega) ?_; intro v7 w7 hown7 hg7 hat7; have hB7 := below_grown_own (z6.be.alloc hs6 _) (ho6.alloc _) hg7 (Nat.le_refl _) (by simp; omega); replace hown7 := own_snoc_str (fmtC x) hs1.out hown7; clear hg7 hat7; obtain ⟨z7, rfl⟩ := Kept.fst hB7)
            go_roundw
            case rel => exact ⟨k + 1, z7, rfl, by omega, by go_num, by rw [HT.out]; exact hown7, HA2.out⟩
            case measure => simp [intOf]; omega
          · have hs1 := Lib.hid (signed_sv 43 J x HJ.out (by rw [hinv]; rfl))
            rw [hinv] at r0
            go_wp2_with (at_builtin; refine ap_plain _ app_str (by decide) w0.heap.size (.tmp 26) (.tmp 29) rfl rfl _ _ _ rfl (ho6.alloc _) _ _ 1 1 _ rfl (reads_new _ rfl) (by intro u hu; rw [hs1.out] at hu; exact h15 u hu) q3 (by simp; omega) ?_; intro v7 w7 hown7 hg7 hat7; have hB7 := below_grown_own (z6.be.alloc hs6 _) (ho6.alloc _) hg7 (Nat.le_refl _) (by simp; omega); replace hown7 := own_snoc_str (fmtC x) hs1.out hown7; clear hg7 hat7; obtain ⟨z7, rfl⟩ := Kept.fst hB7)
            go_roundw
            case rel => exact ⟨k + 1, z7, rfl, by omega, by go_num, by rw [HT.out]; exact hown7, HA2.out⟩
            case measure => simp [intOf]; omega
      · obtain rfl : k = n := by omega
        have hlt' : ¬ (k : Int) < k := by omega
        have hl : (l.map fmtC).length = k := by rw [List.length_map]; exact HLN.out
        have hA3 := HA.out
        rw [List.take_of_length_le (by have := HLN.out; omega)] at hown hA3
        have HE2 := Lib.hid (HE.out hA3)
        rcases Nat.eq_zero_or_pos k with h0k | h0k
        · subst h0k
          obtain ⟨A2, c2, rfl, _⟩ := own_form hown
          have hjn : Lib.join (l.map fmtC) [32] = [] := by rw [List.eq_nil_of_length_eq_zero hl]; rfl
          have HJN := Lib.hid hjn
          have HC2 := Lib.hid (Tryz.strings_Join_none A2 c2 ⟨#[32]⟩ z.W)
          clear hjn hown hA3
          go_wp2_with fail
          refine HC2.out.mono ?_
          rintro r w6 ⟨rfl, rfl⟩
          go_wp2
          go_ret
          exact ⟨by rw [HE2.out, HJN.out] <;> rfl, hzb⟩
        · obtain ⟨g, c2, rfl, hgc, hgb⟩ : ∃ g c2, _ = Value.slice (some ⟨g, 0, none⟩) k c2 ∧ k ≤ c2 ∧ g < z.W.heap.size := by
            obtain ⟨g, cap, hv, _, hlt2⟩ := hown.form (by omega)
            obtain ⟨_, _, he, hnc, _, _⟩ := own_form hown
            rw [hv] at he
            injection he with _ _ e3
            exact ⟨g, cap, hv, by omega, hlt2⟩
          obtain ⟨Y, hY⟩ : ∃ Y : List ByteArray, Y = (l.map fmtC).map (fun l => ⟨l.toArray⟩) := ⟨_, rfl⟩
          have hYl : Y.length = k := by rw [hY, List.length_map, hl]
          have hYd : Y.map (·.data.toList) = l.map fmtC := by rw [hY, List.map_map]; simp
          have hcells : ∀ (j : Nat) x, Y[j]? = some x → z.W.cell? ⟨g, 0 + j, none⟩ = some (.string x) := by
            intro j x hj
            have hjk := (List.getElem?_eq_some_iff.1 hj).1
            rw [Nat.zero_add, hown.cellAt j (by omega), List.getElem?_map]
            rw [hY, List.getElem?_map] at hj
            cases he : (l.map fmtC)[j]? with
            | none => rw [he] at hj; simp at hj
            | some l => rw [he] at hj; simp at hj; subst hj; rfl
          have hjl := fmtCs_len l
          have hjoin := Tryz.strings_Join g 0 c2 Y ⟨#[32]⟩ z.W hcells hgb (by omega) (by omega) (by rw [hYd]; have := HLN.out; show (Lib.join (l.map fmtC) [32]).length ≤ _; omega)
          rw [hYl, hYd] at hjoin
          have HJN := Lib.hid hjoin
          clear hjoin hcells hY hYl hYd hown hjl hA3
          go_wp2_with fail
          refine HJN.out.mono ?_
          rintro r w6 ⟨rfl, hb6⟩
          have hB6 := below_then hzb hb6
          go_wp2
          go_ret
          exact ⟨by rw [HE2.out] <;> rfl, hB6⟩
  · have hE : fmtBt l = [] := by unfold fmtBt; rw [if_neg (by simp [h.ln, h60])]
    have HE := Lib.hid hE
    have hd60 : (n : Int) > 6 := by omega
    clear hE hw0
    have HW0 : Below w.heap.size w (w.alloc (.cells #[.slice A n c] 47)) := (Below.refl _ _).alloc (Nat.le_refl _) _
    have kk : (w.alloc (.cells #[.slice A n c] 47)).cell? ⟨w.heap.size, 0, none⟩ = some (.slice A n c) := by go_simp
    go_enter Tryz.func35, Tryz.ntmps35
    go_wp2
    go_ret
    exact ⟨by rw [HE.out] <;> rfl, HW0⟩
end Go.Proofs.YtomkgnamjfiocaaGreatDoor
