/- ParseEdge of both packages. -/
import Derived.Test.YtomkgnamjfiocaaGreatDoorSpl
import Derived.BigRegion
namespace Go.Proofs.YtomkgnamjfiocaaGreatDoor
open Go.RowKit Go.ChangeShapes Go.WideShapes Go.ChangeAt Go.Deep
set_option linter.unusedVariables false
def e0 : E := ⟨0, 0, 0, 0⟩
def prsEN (l : List UInt8) : E := (prsE l).getD e0
def prsEB (l : List UInt8) : Bool := (prsE l).isSome
theorem prsE_short {l : List UInt8} (h : (Lib.cut l [58]).2.1.length ≠ 3) : prsE l = none := by
  unfold prsE
  split
  · rename_i x y z hb
    rw [hb] at h
    simp at h
  · rfl
theorem byte48 (x : UInt8) : wrap64 (wrap64 (x.toNat : Int) - 48) = (x.toNat : Int) - 48 := by
  have := x.toNat_lt
  unfold wrap64
  omega
theorem byte97 (x : UInt8) : wrap64 (wrap64 (x.toNat : Int) - 97) = (x.toNat : Int) - 97 := by
  have := x.toNat_lt
  unfold wrap64
  omega
theorem mk_sz (l : List UInt8) : (⟨l.toArray⟩ : ByteArray).size = l.length := by rw [Lib.size_eq]
theorem len3 {l : List UInt8} (h : l.length = 3) : ∃ x y z, l = [x, y, z] := by
  match l, h with
  | [x, y, z], _ => exact ⟨x, y, z, rfl⟩
theorem prsE_three {l : List UInt8} {x y z : UInt8} (h : (Lib.cut l [58]).2.1 = [x, y, z]) : prsE l = if fmtE (edI (Lib.cut l [58]).1 x y z) = l then some (edI (Lib.cut l [58]).1 x y z) else none := by
  unfold prsE
  rw [h]
set_option maxRecDepth 4000 in
set_option maxHeartbeats 4000000 in
theorem implParseEdge_any (w : World) (TP : TabP w) (TE : TabE w) (TM : TabM w) (s : ByteArray) (hs : s.size ≤ 1048576) :
    Calls Tryz.prog 82 #[.string s] w fun r w' => r = .returned (.tuple #[.agg #[.int .i64 (prsEN s.data.toList).id, .int .i64 (prsEN s.data.toList).fr, .int .i64 (prsEN s.data.toList).to, .int .i64 (prsEN s.data.toList).lb], .bool (prsEB s.data.toList)]) ∧ Below w.heap.size w w' := by
  have HB : Below w.heap.size w (w.alloc (.cells #[.int .i64 0, .int .i64 0, .int .i64 0, .int .i64 0] 90)) := (Below.refl _ _).alloc (Nat.le_refl _) _
  have XR := Blk.new w 90 #[.int .i64 0, .int .i64 0, .int .i64 0, .int .i64 0]
  generalize hw0 : w.alloc (.cells #[.int .i64 0, .int .i64 0, .int .i64 0, .int .i64 0] 90) = w0 at *
  have hcut := cutS_any w0 (TM.up HB) s hs
  obtain ⟨a, ha⟩ : ∃ a, (Lib.cut s.data.toList [58]).1 = a := ⟨_, rfl⟩
  obtain ⟨b, hb⟩ : ∃ b, (Lib.cut s.data.toList [58]).2.1 = b := ⟨_, rfl⟩
  obtain ⟨fo, hfo⟩ : ∃ fo, (Lib.cut s.data.toList [58]).2.2 = fo := ⟨_, rfl⟩
  rw [ha, hb, hfo] at hcut
  by_cases h3 : b.length = 3
  · obtain ⟨x, y, z, rfl⟩ := len3 h3
    have hp := prsE_three hb
    rw [ha] at hp
    obtain ⟨S, hS⟩ : ∃ S : ByteArray, (⟨[x, y, z].toArray⟩ : ByteArray) = S := ⟨_, rfl⟩
    have S3 : S.size = 3 := by rw [← hS]; rfl
    have Sx : S[0]'(by omega) = x := by subst hS; rfl
    have Sy : S[1]'(by omega) = y := by subst hS; rfl
    have Sz : S[2]'(by omega) = z := by subst hS; rfl
    rw [hS] at hcut
    have HCUT := Lib.hid hcut
    have HP := Lib.hid hp
    clear hcut hp ha hb hfo h3 hS
    have s3 : (S.size : Int) = 3 := by omega
    go_enter Tryz.func82, Tryz.ntmps82
    go_wp2_with fail
    refine HCUT.out.mono ?_
    rintro e w1 ⟨rfl, hb1⟩
    go_wp2_with fail
    go_region
    have hx9 := x.toNat_lt
    have hy9 := y.toNat_lt
    have hz9 := z.toNat_lt
    simp only [byte48 x, byte48 z, byte97 y]
    obtain ⟨q, hq⟩ : ∃ q, prsIN a = q := ⟨_, rfl⟩
    obtain ⟨X, hX⟩ : ∃ X, (x.toNat : Int) - 48 = X := ⟨_, rfl⟩
    obtain ⟨Y, hY⟩ : ∃ Y, (y.toNat : Int) - 97 = Y := ⟨_, rfl⟩
    obtain ⟨Z, hZ⟩ : ∃ Z, (z.toNat : Int) - 48 = Z := ⟨_, rfl⟩
    have hed : edI a x y z = ⟨q, X, Z, Y⟩ := by rw [← hq, ← hX, ← hY, ← hZ]; rfl
    have hp2 := HP.out
    rw [hed] at hp2
    simp only [hX, hY, hZ]
    have hB1 := below_then HB hb1
    have hg : w.heap.size < w1.heap.size := Nat.lt_of_lt_of_le XR.lt hb1.size
    have hb2 : Below w1.heap.size w1 ((w1.alloc (.cells #[.int .i64 0, .int .i64 X, .int .i64 Z, .int .i64 Y] 90)).drew) := ((Below.refl _ _).alloc (Nat.le_refl _) _).drew
    have XE : Blk ((w1.alloc (.cells #[.int .i64 0, .int .i64 X, .int .i64 Z, .int .i64 Y] 90)).drew) w1.heap.size 90 #[.int .i64 0, .int .i64 X, .int .i64 Z, .int .i64 Y] := (Blk.new w1 90 _).drew
    have XR1 := XR.below hb1 XR.lt
    have XR2 := XR1.below hb2 XR1.lt
    have hB2 := below_then hB1 hb2
    generalize ((w1.alloc (.cells #[.int .i64 0, .int .i64 X, .int .i64 Z, .int .i64 Y] 90)).drew) = w2 at *
    have hPI := implParseInt_any w2 (TP.up hB2) (TE.up hB2) ⟨a.toArray⟩
    rw [show ((⟨a.toArray⟩ : ByteArray).data.toList) = a from rfl, hq] at hPI
    clear hq hX hY hZ hed hb1 hb2 XR XR1 hB1 HCUT HB hw0
    generalize hgg : w1.heap.size = g at *
    clear hgg
    go_wp2_with fail
    refine hPI.mono ?_
    rintro e w3 ⟨rfl, hb3⟩
    have XE3 := XE.below hb3 XE.lt
    have XR3 := XR2.below hb3 XR2.lt
    have hB3 := below_then hB2 hb3
    have c0 := XE3.cell 0
    have c1 := XE3.cell 1
    have c2 := XE3.cell 2
    have c3 := XE3.cell 3
    have f0 := XE3.frozen 0
    have XE4 := XE3.set_ 0 (.int .i64 q)
    have XR4 := XR3.far (p := ⟨g, 0, none⟩) (by dsimp only; omega) (.int .i64 q)
    have hB4 := hB3.setCell (p := ⟨g, 0, none⟩) (by dsimp only; omega) (.int .i64 q)
    have hF := implFormatEdge_any _ (TP.up hB4) ⟨q, X, Z, Y⟩
    obtain ⟨F, hFe⟩ : ∃ F, fmtE ⟨q, X, Z, Y⟩ = F := ⟨_, rfl⟩
    rw [hFe] at hF hp2
    dsimp only at hF
    clear hPI XE XR2 hB2 hb3 hFe
    go_wp2_with fail
    refine hF.mono ?_
    rintro e w5 ⟨rfl, hb5⟩
    have XE5 := XE4.below hb5 XE4.lt
    have XR5 := XR4.below hb5 XR4.lt
    have hB5 := below_then hB4 hb5
    have d0 := XE5.cell 0
    have d1 := XE5.cell 1
    have d2 := XE5.cell 2
    have d3 := XE5.cell 3
    have r0 := XR5.cell 0
    have r1 := XR5.cell 1
    have r2 := XR5.cell 2
    have r3 := XR5.cell 3
    have q0 := XR5.frozen 0
    have q1 := XR5.frozen 1
    have q2 := XR5.frozen 2
    have q3 := XR5.frozen 3
    clear c0 c1 c2 c3 f0 hF hb5 XE4 XR4 hB4 XE3 XR3 hB3
    by_cases hok : F = s.data.toList
    · rw [if_pos hok] at hp2
      have HN : RowKit.Hid (prsEN s.data.toList = ⟨q, X, Z, Y⟩) := Lib.hid (by unfold prsEN; rw [hp2]; rfl)
      have HBB : RowKit.Hid (prsEB s.data.toList = true) := Lib.hid (by unfold prsEB; rw [hp2]; rfl)
      have hfs : (F == s.toList) = true := by rw [beq_iff_eq, ByteArray.toList_eq]; exact hok
      have hBF := (((hB5.setCell (p := ⟨w.heap.size, 0, none⟩) (Nat.le_refl _) (.int .i64 q)).setCell (p := ⟨w.heap.size, 1, none⟩) (Nat.le_refl _) (.int .i64 X)).setCell (p := ⟨w.heap.size, 2, none⟩) (Nat.le_refl _) (.int .i64 Z)).setCell (p := ⟨w.heap.size, 3, none⟩) (Nat.le_refl _) (.int .i64 Y)
      clear hok hp2
      go_wp2
      rw [HN.out, HBB.out]
      refine bodyPost_ret (v := .tuple #[.agg #[.int .i64 q, .int .i64 X, .int .i64 Z, .int .i64 Y], .bool true]) ?_ rfl ?_
      · simp [results, Tryz.results82, go_sem]
        go_simp
      · exact ⟨rfl, hBF⟩
    · rw [if_neg hok] at hp2
      have HN : RowKit.Hid (prsEN s.data.toList = e0) := Lib.hid (by unfold prsEN; rw [hp2]; rfl)
      have HBB : RowKit.Hid (prsEB s.data.toList = false) := Lib.hid (by unfold prsEB; rw [hp2]; rfl)
      have hfs : (F == s.toList) = false := by rw [beq_eq_false_iff_ne, ByteArray.toList_eq]; exact hok
      have hBF := (((hB5.setCell (p := ⟨w.heap.size, 0, none⟩) (Nat.le_refl _) (.int .i64 0)).setCell (p := ⟨w.heap.size, 1, none⟩) (Nat.le_refl _) (.int .i64 0)).setCell (p := ⟨w.heap.size, 2, none⟩) (Nat.le_refl _) (.int .i64 0)).setCell (p := ⟨w.heap.size, 3, none⟩) (Nat.le_refl _) (.int .i64 0)
      clear hok hp2
      go_wp2
      rw [HN.out, HBB.out]
      refine bodyPost_ret (v := .tuple #[.agg #[.int .i64 0, .int .i64 0, .int .i64 0, .int .i64 0], .bool false]) ?_ rfl ?_
      · simp [results, Tryz.results82, go_sem]
        go_simp
      · exact ⟨rfl, hBF⟩
  · have hp : prsE s.data.toList = none := prsE_short (by rw [hb]; exact h3)
    have HN : RowKit.Hid (prsEN s.data.toList = e0) := Lib.hid (by unfold prsEN; rw [hp]; rfl)
    have HBB : RowKit.Hid (prsEB s.data.toList = false) := Lib.hid (by unfold prsEB; rw [hp]; rfl)
    have hbs : ((⟨b.toArray⟩ : ByteArray).size : Int) = (b.length : Int) := by rw [mk_sz]
    have h3' : ((b.length : Int) == 3) = false := by rw [beq_eq_false_iff_ne]; omega
    have HCUT := Lib.hid hcut
    clear hcut hp ha hb hfo
    go_enter Tryz.func82, Tryz.ntmps82
    go_wp2_with fail
    refine HCUT.out.mono ?_
    rintro e w1 ⟨rfl, hb1⟩
    have XR5 := XR.below hb1 XR.lt
    have hB5 := below_then HB hb1
    have r0 := XR5.cell 0
    have r1 := XR5.cell 1
    have r2 := XR5.cell 2
    have r3 := XR5.cell 3
    have q0 := XR5.frozen 0
    have q1 := XR5.frozen 1
    have q2 := XR5.frozen 2
    have q3 := XR5.frozen 3
    have hBF := (((hB5.setCell (p := ⟨w.heap.size, 0, none⟩) (Nat.le_refl _) (.int .i64 0)).setCell (p := ⟨w.heap.size, 1, none⟩) (Nat.le_refl _) (.int .i64 0)).setCell (p := ⟨w.heap.size, 2, none⟩) (Nat.le_refl _) (.int .i64 0)).setCell (p := ⟨w.heap.size, 3, none⟩) (Nat.le_refl _) (.int .i64 0)
    clear hw0
    go_wp2
    rw [HN.out, HBB.out]
    refine bodyPost_ret (v := .tuple #[.agg #[.int .i64 0, .int .i64 0, .int .i64 0, .int .i64 0], .bool false]) ?_ rfl ?_
    · simp [results, Tryz.results82, go_sem]
      go_simp
    · exact ⟨rfl, hBF⟩
theorem glue_len (c : UInt8) : ∀ (L : List (List UInt8)), ∀ p ∈ L, p.length ≤ (glue c L).length
  | [], p, h => by simp at h
  | x :: r, p, h => by
    rcases List.mem_cons.1 h with rfl | h
    · simp [glue]
    · have key : ∀ r : List (List UInt8), ∀ p ∈ r, p.length ≤ (r.flatMap (fun y => c :: y)).length := by
        intro r
        induction r with
        | nil => intro p h; simp at h
        | cons y r ih =>
          intro p h
          rw [List.flatMap_cons, List.length_append, List.length_cons]
          rcases List.mem_cons.1 h with rfl | h
          · omega
          · have := ih p h
            omega
      have := key r p h
      rw [glue, List.length_append]
      omega
theorem piece_len {c : UInt8} {l p : List UInt8} (h : p ∈ cutL c l) : p.length ≤ l.length := by
  have := glue_len c (cutL c l) p h
  rwa [cutL_glue] at this
theorem prsES_two {l a : List UInt8} {x y z : UInt8} (h : cutL 58 l = [a, [x, y, z]]) : prsE l = if fmtE (edS a x y z) = l then some (edS a x y z) else none := by
  rw [← prsES_eq]
  unfold prsES
  rw [h]
theorem prsES_bad {l : List UInt8} (h : ∀ a b, cutL 58 l = [a, b] → b.length ≠ 3) : prsE l = none := by
  rw [← prsES_eq]
  unfold prsES
  split
  · rename_i a x y z he
    exact absurd rfl (h a _ he)
  · rfl
theorem parseLN_bd (l : List UInt8) : 0 ≤ parseLN l ∧ parseLN l ≤ 9 := by
  have := letIx_le l
  unfold parseLN
  split <;> omega
theorem half_w (n : Int) (h : 0 ≤ n ∧ n ≤ 9) : wrap64 (n.tdiv 2) = n.tdiv 2 := by
  rw [Int.tdiv_eq_ediv_of_nonneg h.1]
  unfold wrap64
  omega
end Go.Proofs.YtomkgnamjfiocaaGreatDoor
