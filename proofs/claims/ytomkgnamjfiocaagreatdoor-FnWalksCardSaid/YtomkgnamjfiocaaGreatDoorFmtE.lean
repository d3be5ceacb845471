/- FormatEdge of both packages. -/
import Derived.Test.YtomkgnamjfiocaaGreatDoorBaseE
import Derived.Test.YtomkgnamjfiocaaGreatDoorPrsI
import Derived.Test.YtomkgnamjfiocaaGreatDoorBaseA
namespace Go.Proofs.YtomkgnamjfiocaaGreatDoor
open Go.RowKit Go.ChangeShapes Go.WideShapes Go.ChangeAt Go.Deep
set_option linter.unusedVariables false
def ba (l : List UInt8) : ByteArray := ⟨l.toArray⟩
theorem ba_size (l : List UInt8) : (ba l).size = l.length := by simp [ba, ByteArray.size]
theorem TabP.kept {w : World} (h : TabP w) (x : Kept w) : TabP x.W := h.up x.be
theorem TabE.kept {w : World} (h : TabE w) (x : Kept w) : TabE x.W := h.up x.be
theorem TabM.kept {w : World} (h : TabM w) (x : Kept w) : TabM x.W := h.up x.be
theorem fmtE_parts {e : E} (h : okE 5 e = true) : ∃ (I : ByteArray) (x y z : UInt8), I.size ≤ 10 ∧ (⟨(Lib.itoa e.id).toArray⟩ : ByteArray) = I ∧ (⟨(Lib.itoa e.fr).toArray⟩ : ByteArray) = ⟨#[x]⟩ ∧ (⟨(fmtL (2 * e.lb)).toArray⟩ : ByteArray) = ⟨#[y]⟩ ∧ (⟨(Lib.itoa e.to).toArray⟩ : ByteArray) = ⟨#[z]⟩ ∧ (y.toNat : Int) = 97 + e.lb ∧ fmtE e = I.data.toList ++ [58, x, y, z] := by
  obtain ⟨⟨i0, i1⟩, ⟨f0, f1⟩, ⟨t0, t1⟩, l0, l1⟩ := okE_iff.1 h
  obtain ⟨x, hx, hx'⟩ := itoa_dig f0 (by omega)
  obtain ⟨z, hz, hz'⟩ := itoa_dig t0 (by omega)
  obtain ⟨y, hy, hy', hy''⟩ := fmtL_dbl l0 l1
  refine ⟨⟨(Lib.itoa e.id).toArray⟩, x, y, z, ?_, rfl, by rw [hx], by rw [hy], by rw [hz], hy', ?_⟩
  · have := itoa_len9 (n := e.id) (by omega) (by omega)
    rw [Lib.size_eq]
    exact this
  · unfold fmtE
    rw [if_pos h, hx, hz, hy]
    simp
theorem ba_ext {a b : ByteArray} (h : a.data.toList = b.data.toList) : a = b := ByteArray.ext (Array.toList_inj.1 h)
theorem cat4 (I : ByteArray) (x y z : UInt8) : I ++ ⟨#[58]⟩ ++ ⟨#[x]⟩ ++ ⟨#[y]⟩ ++ ⟨#[z]⟩ = ⟨(I.data.toList ++ [58, x, y, z]).toArray⟩ := by
  apply ba_ext
  simp only [ByteArray.data_append, Array.toList_append, List.append_assoc]
  rfl
theorem abc_cut : ∀ k : Nat, k ≤ 2 → (⟨#[97, 98, 99]⟩ : ByteArray).extract k (k + 1) = ⟨#[UInt8.ofNat (97 + k)]⟩ := by
  intro k hk
  have : k = 0 ∨ k = 1 ∨ k = 2 := by omega
  rcases this with rfl | rfl | rfl <;> rfl
set_option maxRecDepth 4000 in
set_option maxHeartbeats 2000000 in
theorem implFormatEdge_any (w : World) (T : TabP w) (e : E) :
    Calls Tryz.prog 80 #[.agg #[.int .i64 e.id, .int .i64 e.fr, .int .i64 e.to, .int .i64 e.lb]] w fun r w' => r = .returned (.string ⟨(fmtE e).toArray⟩) ∧ Below w.heap.size w w' := by
  obtain ⟨ok, hok⟩ : ∃ ok, okE 5 e = ok := ⟨_, rfl⟩
  have hcall : ∀ W, Calls Tryz.prog 106 #[.agg #[.int .i64 e.id, .int .i64 e.fr, .int .i64 e.to, .int .i64 e.lb], .int .i64 5] W fun r w' => r = .returned (.bool ok) ∧ Below W.heap.size W w' := fun W => by rw [← hok]; exact edgeOk_any e 5 W (by omega) (by omega)
  have HB : Below w.heap.size w (w.alloc (.cells #[.int .i64 e.id, .int .i64 e.fr, .int .i64 e.to, .int .i64 e.lb] 90)) := (Below.refl _ _).alloc (Nat.le_refl _) _
  have T0 := T.up HB
  have XB := Blk.new w 90 #[.int .i64 e.id, .int .i64 e.fr, .int .i64 e.to, .int .i64 e.lb]
  have HC := Lib.hid hcall
  cases ok
  · have hE := fmtE_bad (e := e) (by simp [hok])
    have HE := Lib.hid hE
    clear hE hok hcall XB
    go_enter Tryz.func80, Tryz.ntmps80
    go_wp2_with fail
    refine (HC.out _).mono ?_
    rintro r w1 ⟨rfl, hb1⟩
    have hB1 := below_then HB hb1
    go_wp2
    go_ret
    exact ⟨by rw [HE.out] <;> rfl, hB1⟩
  · obtain ⟨I, x, y, z, hIs, h1, h2, h3, h4, hy, hE⟩ := fmtE_parts hok
    obtain ⟨⟨i0, i1⟩, ⟨f0, f1⟩, ⟨t0, t1⟩, l0, l1⟩ := okE_iff.1 hok
    have HE := Lib.hid hE
    obtain ⟨j, hj, hj2⟩ : ∃ j : Nat, e.lb = (j : Int) ∧ j ≤ 2 := ⟨e.lb.toNat, by omega, by omega⟩
    obtain ⟨ei, ef, et, el⟩ := e
    dsimp only at *
    subst hj
    have hcut := abc_cut j hj2
    rw [show UInt8.ofNat (97 + j) = y from UInt8.toNat_inj.1 (by rw [UInt8.toNat_ofNat']; omega)] at hcut
    have HI : RowKit.Hid (∀ W : Kept (w.alloc (.cells #[.int .i64 ei, .int .i64 ef, .int .i64 et, .int .i64 (j : Int)] 90)), Calls Tryz.prog 56 #[.int .i64 ei] W.W fun r w' => r = .returned (.string I) ∧ Below W.W.heap.size W.W w') :=
      Lib.hid (fun W => by rw [← h1]; exact implFormatInt_any W.W (T0.kept W) _ ⟨by omega, by omega⟩)
    have HR : RowKit.Hid (∀ W : Kept (w.alloc (.cells #[.int .i64 ei, .int .i64 ef, .int .i64 et, .int .i64 (j : Int)] 90)), Calls Tryz.prog 56 #[.int .i64 ef] W.W fun r w' => r = .returned (.string ⟨#[x]⟩) ∧ Below W.W.heap.size W.W w') :=
      Lib.hid (fun W => by rw [← h2]; exact implFormatInt_any W.W (T0.kept W) _ ⟨by omega, by omega⟩)
    have HT : RowKit.Hid (∀ W : Kept (w.alloc (.cells #[.int .i64 ei, .int .i64 ef, .int .i64 et, .int .i64 (j : Int)] 90)), Calls Tryz.prog 56 #[.int .i64 et] W.W fun r w' => r = .returned (.string ⟨#[z]⟩) ∧ Below W.W.heap.size W.W w') :=
      Lib.hid (fun W => by rw [← h4]; exact implFormatInt_any W.W (T0.kept W) _ ⟨by omega, by omega⟩)
    have k0 := XB.kc (v := .int .i64 ei) 0 rfl
    have k1 := XB.kc (v := .int .i64 ef) 1 rfl
    have k2 := XB.kc (v := .int .i64 et) 2 rfl
    have k3 := XB.kc (v := .int .i64 (j : Int)) 3 rfl
    have k4 : ∀ W : Kept (w.alloc (.cells #[.int .i64 ei, .int .i64 ef, .int .i64 et, .int .i64 (j : Int)] 90)), W.W.heap.size ≥ w.heap.size := fun W => Nat.le_trans HB.size W.be.size
    clear hE hok hcall XB T T0 h1 h2 h3 h4
    have w0 : IntKind.i64.wrap ((j : Int) + 1) = (j : Int) + 1 := IntWalk.i64_in _ (by omega)
    have b0 : (0 : Int) ≤ (j : Int) := by omega
    have b1 : (j : Int) ≤ (j : Int) + 1 := by omega
    have b2 : (j : Int) + 1 ≤ 3 := by omega
    go_enter Tryz.func80, Tryz.ntmps80
    go_wp2_with fail
    refine (HC.out _).mono ?_
    rintro r w1 ⟨rfl, hb1⟩
    obtain ⟨z1, rfl⟩ := Kept.fst hb1
    clear hb1
    go_wp2_with fail
    refine wp_region_k2 (by kernel_rfl) (by kernel_rfl) ?_
    repeat (go_big_quiet_step ((go_at_call 56; first | with_reducible exact Calls.kept (HI.out _) | with_reducible exact Calls.kept (HR.out _) | with_reducible exact Calls.kept (HT.out _))))
    refine wpQuiet_nil ?_
    intro _ hw'
    obtain ⟨z2, rfl⟩ := hw'
    have hB2 := below_then HB z2.be
    go_wp2
    go_ret
    refine ⟨?_, hB2⟩
    rw [HE.out]
    exact congrArg (fun q => Ending.returned (Value.string q)) (cat4 I x y z)
set_option maxRecDepth 4000 in
set_option maxHeartbeats 2000000 in
theorem specFormatEdge_any (w : World) (e : E) :
    Calls Tryz.prog 83 #[.agg #[.int .i64 e.id, .int .i64 e.fr, .int .i64 e.to, .int .i64 e.lb]] w fun r w' => r = .returned (.string ⟨(fmtE e).toArray⟩) ∧ Below w.heap.size w w' := by
  obtain ⟨ei, ef, et, el⟩ := e
  dsimp only
  have HB : Below w.heap.size w (w.alloc (.cells #[.int .i64 ei, .int .i64 ef, .int .i64 et, .int .i64 el] 90)) := (Below.refl _ _).alloc (Nat.le_refl _) _
  have XB := Blk.new w 90 #[.int .i64 ei, .int .i64 ef, .int .i64 et, .int .i64 el]
  cases h1 : inB ei 1 99
  · have hE : fmtE ⟨ei, ef, et, el⟩ = [] := fmtE_bad (by unfold okE; simp [h1])
    have HE := Lib.hid hE
    clear hE XB
    go_enter Tryz.func83, Tryz.ntmps83
    go_wp2_with (go_at_call 88; refine (l1In_any _ _ _ _).mono ?_; rintro e w' ⟨rfl, rfl⟩)
    go_ret
    exact ⟨by rw [HE.out] <;> rfl, HB⟩
  cases h2 : inB ef 0 4
  · have hE : fmtE ⟨ei, ef, et, el⟩ = [] := fmtE_bad (by unfold okE; simp [h2])
    have HE := Lib.hid hE
    clear hE XB
    go_enter Tryz.func83, Tryz.ntmps83
    go_wp2_with (go_at_call 88; refine (l1In_any _ _ _ _).mono ?_; rintro e w' ⟨rfl, rfl⟩)
    go_ret
    exact ⟨by rw [HE.out] <;> rfl, HB⟩
  cases h3 : inB et 0 4
  · have hE : fmtE ⟨ei, ef, et, el⟩ = [] := fmtE_bad (by unfold okE; simp [h3])
    have HE := Lib.hid hE
    clear hE XB
    go_enter Tryz.func83, Tryz.ntmps83
    go_wp2_with (go_at_call 88; refine (l1In_any _ _ _ _).mono ?_; rintro e w' ⟨rfl, rfl⟩)
    go_ret
    exact ⟨by rw [HE.out] <;> rfl, HB⟩
  cases h4 : inB el 0 2
  · have hE : fmtE ⟨ei, ef, et, el⟩ = [] := fmtE_bad (by unfold okE; simp [h4])
    have HE := Lib.hid hE
    clear hE XB
    go_enter Tryz.func83, Tryz.ntmps83
    go_wp2_with (go_at_call 88; refine (l1In_any _ _ _ _).mono ?_; rintro e w' ⟨rfl, rfl⟩)
    go_ret
    exact ⟨by rw [HE.out] <;> rfl, HB⟩
  have hok : okE 5 ⟨ei, ef, et, el⟩ = true := by unfold okE; simp [h1, h2, h3, h4]
  obtain ⟨I, x, y, z, hIs, g1, g2, g3, g4, hy, hE⟩ := fmtE_parts hok
  obtain ⟨⟨i0, i1⟩, ⟨f0, f1⟩, ⟨t0, t1⟩, l0, l1⟩ := okE_iff.1 hok
  have HE := Lib.hid hE
  have HI : RowKit.Hid (∀ W : Kept (w.alloc (.cells #[.int .i64 ei, .int .i64 ef, .int .i64 et, .int .i64 el] 90)), Calls Tryz.prog 120 #[.int .i64 ei] W.W fun r w' => r = .returned (.string I) ∧ Below W.W.heap.size W.W w') :=
    Lib.hid (fun W => by rw [← g1]; exact specFormatInt_any W.W _ ⟨by dsimp only at *; omega, by dsimp only at *; omega⟩)
  have HR : RowKit.Hid (∀ W : Kept (w.alloc (.cells #[.int .i64 ei, .int .i64 ef, .int .i64 et, .int .i64 el] 90)), Calls Tryz.prog 120 #[.int .i64 ef] W.W fun r w' => r = .returned (.string ⟨#[x]⟩) ∧ Below W.W.heap.size W.W w') :=
    Lib.hid (fun W => by rw [← g2]; exact specFormatInt_any W.W _ ⟨by dsimp only at *; omega, by dsimp only at *; omega⟩)
  have HT : RowKit.Hid (∀ W : Kept (w.alloc (.cells #[.int .i64 ei, .int .i64 ef, .int .i64 et, .int .i64 el] 90)), Calls Tryz.prog 120 #[.int .i64 et] W.W fun r w' => r = .returned (.string ⟨#[z]⟩) ∧ Below W.W.heap.size W.W w') :=
    Lib.hid (fun W => by rw [← g4]; exact specFormatInt_any W.W _ ⟨by dsimp only at *; omega, by dsimp only at *; omega⟩)
  have HL : RowKit.Hid (∀ W : Kept (w.alloc (.cells #[.int .i64 ei, .int .i64 ef, .int .i64 et, .int .i64 el] 90)), Calls Tryz.prog 121 #[.int .i64 (2 * el)] W.W fun r w' => r = .returned (.string ⟨#[y]⟩) ∧ Below W.W.heap.size W.W w') :=
    Lib.hid (fun W => by rw [← g3]; exact specFormatL_any (2 * el) W.W)
  have k0 := XB.kc (v := .int .i64 ei) 0 rfl
  have k1 := XB.kc (v := .int .i64 ef) 1 rfl
  have k2 := XB.kc (v := .int .i64 et) 2 rfl
  have k3 := XB.kc (v := .int .i64 el) 3 rfl
  have k4 : ∀ W : Kept (w.alloc (.cells #[.int .i64 ei, .int .i64 ef, .int .i64 et, .int .i64 el] 90)), W.W.heap.size ≥ w.heap.size := fun W => Nat.le_trans HB.size W.be.size
  have w0 : IntKind.i64.wrap (2 * el) = 2 * el := IntWalk.i64_in _ (by dsimp only at *; omega)
  clear hE hok g1 g2 g3 g4
  go_enter Tryz.func83, Tryz.ntmps83
  go_wp2_with (go_at_call 88; refine (l1In_any _ _ _ _).mono ?_; rintro e w' ⟨rfl, rfl⟩)
  refine wp_region_kept (by kernel_rfl) (by kernel_rfl) ?_
  repeat (go_big_quiet_step ((first | (go_at_call 120; first | with_reducible exact Calls.kept (HI.out _) | with_reducible exact Calls.kept (HR.out _) | with_reducible exact Calls.kept (HT.out _)) | (go_at_call 121; exact Calls.kept (HL.out _)))))
  refine wpQuiet_nil ?_
  intro _ hw'
  obtain ⟨z2, rfl⟩ := hw'
  have hB2 := below_then HB z2.be
  go_wp2
  go_ret
  refine ⟨?_, hB2⟩
  rw [HE.out]
  exact congrArg (fun q => Ending.returned (Value.string q)) (cat4 I x y z)
end Go.Proofs.YtomkgnamjfiocaaGreatDoor
