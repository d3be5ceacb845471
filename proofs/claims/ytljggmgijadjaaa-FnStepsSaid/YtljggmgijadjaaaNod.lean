/- NodesAfter of both packages. -/
import Derived.Test.YtljggmgijadjaaaAscL
import Derived.Test.YtljggmgijadjaaaKp
import Derived.Test.YtljggmgijadjaaaStepsW
namespace Go.Proofs.Ytljggmgijadjaaa
open Go.RowKit Go.ChangeShapes Go.WideShapes Go.ChangeAt Go.Deep
set_option linter.unusedVariables false
theorem map_take_succ' {α β : Type} (f : α → β) {l : List α} {k : Nat} {x : α} (h : l[k]? = some x) : (l.take (k + 1)).map f = (l.take k).map f ++ [f x] := by
  rw [List.take_add_one, h]
  simp
set_option maxRecDepth 4000 in
set_option maxHeartbeats 2000000 in
theorem implNodesAfter_is (w : World) {A B : Option Addr} {n c m d : Nat} {g : G} (h : GRd w A n B m g) (node letter : Int) :
    Calls Try.prog 13 #[.agg #[.slice A n c, .slice B m d], .int .i64 node, .int .i64 letter] w fun r w' => ∃ A2 n2 c2, r = .returned (.slice A2 n2 c2) ∧ RIs w' w.heap.size w'.heap.size 3 1 A2 n2 c2 ((afterZ g node letter).map iv) ∧ Below w.heap.size w w' := by
  have hm := h.bm
  obtain ⟨L, hL⟩ : ∃ L, stepsW g node letter = L := ⟨_, rfl⟩
  have hE : afterZ g node letter = ascZ (L.map (stTo g)) := by rw [afterZ, hL]
  rw [hE]
  have HL := Lib.hid hL
  clear hL hE
  go_enter Try.func13, Try.ntmps13
  go_wp2_with fail
  have hB0 : Below w.heap.size w ((w.alloc (.cells #[.slice A n c, .slice B m d] 27)).alloc (.cells #[] 3)) := ((Below.refl _ _).alloc (Nat.le_refl _) _).alloc (by simp) _
  have XG := (Blk.new w 27 #[.slice A n c, .slice B m d]).alloc (.cells #[] 3)
  have ho0 := own_made (w := w.alloc (.cells #[.slice A n c, .slice B m d] 27)) (base := w.heap.size) 3 1 (by simp)
  simp only [World.size_alloc] at ho0
  have hz0 : w.heap.size + 1 + 1 ≤ ((w.alloc (.cells #[.slice A n c, .slice B m d] 27)).alloc (.cells #[] 3)).heap.size := by simp
  generalize ((w.alloc (.cells #[.slice A n c, .slice B m d] 27)).alloc (.cells #[] 3)) = w0 at *
  refine (implStepsWith_is _ (h.up hB0) node letter).mono ?_
  rw [HL.out]
  rintro r w1 ⟨C, q, e, rfl, IL, hb1⟩
  have hB1 := below_then hB0 hb1
  have hS := IL.srd
  have hq := hS.bd
  have HLQ := Lib.hid hS.ln
  have XG1 := XG.below hb1 XG.lt
  have ho1 := own_below ho0 hb1 (Nat.le_refl _)
  have hz1 := hb1.size
  have hw1 := hB1.size
  have kA := XG1.bc (xb := w.heap.size + 1) (by omega) (v := .slice A n c) 0 rfl
  have kB := XG1.bc (xb := w.heap.size + 1) (by omega) (v := .slice B m d) 1 rfl
  clear hB0 hb1 XG ho0
  go_wp2_with fail
  go_loopw [7, 16] (fun v i wr => ∃ (k : Nat) (z : KeptB w1 (w.heap.size + 1)), wr = z.W ∧ k ≤ q ∧ i = .int .i64 k ∧ z.W.ownsRow w.heap.size 3 1 v k (((L.take k).map (stTo g)).map iv) ∧ (∀ j, v.ownBlock = some j → j = w.heap.size + 1 ∨ w1.heap.size ≤ j)) (fun _ i _ => q - (intOf i).toNat)
  case atStart => exact ⟨0, ⟨w1, Tch.refl _ _ _⟩, rfl, Nat.zero_le _, rfl, ho1, fun j hj => by simp [Value.ownBlock] at hj; omega⟩
  case round =>
    obtain ⟨k, z, rfl, hk, rfl, hown, hob⟩ := hrel
    have hsz := z.be.size
    by_cases hlt : k < q
    · obtain ⟨gS, rfl, hg1, hg2⟩ := IL.at_ (by omega)
      obtain ⟨b, o, hbo, had, x, hx, c0, c1⟩ := step_at hS.rd HLQ.out hlt
      injection hbo with hbo
      injection hbo with hbo1 hbo2
      subst hbo1
      subst hbo2
      have y0 := KeptB.cell (xb := w.heap.size + 1) c0 (by dsimp only; omega)
      have y1 := KeptB.cell (xb := w.heap.size + 1) c1 (by dsimp only; omega)
      have HSX := Lib.hid (map_take_succ' (stTo g) hx)
      have q3 : Small (k + 1) := small_of (by omega)
      have hlt' : (k : Int) < q := by omega
      have hk0 : (0 : Int) ≤ (k : Int) := by omega
      clear hx c0 c1
      obtain ⟨xe, xi⟩ := x
      dsimp only at y0 y1
      simp only [Nat.zero_add] at y0 y1
      have b3 : Below z.W.heap.size z.W (z.W.alloc (.cells #[.int .i64 xe, .bool xi] 33)) := (Below.refl _ _).alloc (Nat.le_refl _) _
      have XS := Blk.new z.W 33 #[.int .i64 xe, .bool xi]
      have ho3 := own_below hown b3 (Nat.le_refl _)
      have hs3 := b3.size
      obtain ⟨z3, hz3e⟩ := z.of b3
      rw [hz3e] at XS ho3 hs3
      have xs0 : z3.W.cell? ⟨z.W.heap.size, 0, none⟩ = some (.int .i64 xe) := by rw [XS.cell]; rfl
      have xs1 : z3.W.cell? ⟨z.W.heap.size, 1, none⟩ = some (.bool xi) := by rw [XS.cell]; rfl
      obtain ⟨y, hy⟩ : ∃ y, stTo g ⟨xe, xi⟩ = y := ⟨_, rfl⟩
      have hsx := HSX.out
      rw [hy] at hsx
      have HSX2 := Lib.hid hsx
      have HYY := Lib.hid hy
      have h15 := iv_one [y]
      clear hown b3 hsx hy HSX
      go_wp2_with fail
      refine (implStepTo_is _ (h.up (z3.up hB1 (by omega))) ⟨xe, xi⟩).mono ?_
      rw [HYY.out]
      rintro r w5 ⟨rfl, hb5⟩
      have ho5 := own_below ho3 hb5 (Nat.le_refl _)
      have hs5 := hb5.size
      obtain ⟨z5, rfl⟩ := z3.of hb5
      clear ho3 hb5 xs0 xs1 XS hz3e
      have t6 := z5.be.alloc (.cells #[.int .i64 y] 3)
      go_wp2_with (at_builtin; refine ap_plain _ app_int (by decide) w.heap.size (.tmp 20) (.tmp 24) rfl rfl _ _ _ rfl (ho5.alloc _) _ _ 1 1 _ rfl (reads_new _ rfl) h15 q3 (by simp; omega) ?_; intro v6 w6 hown6 hg6 hat6)
      have hob6 : ∀ j, v6.ownBlock = some j → j = w.heap.size + 1 ∨ w1.heap.size ≤ j := fun j hj => by
        rcases hat6 with h1 | h1
        · exact hob j (h1.symm.trans hj)
        · rw [h1] at hj
          injection hj with hj
          right
          simp at hj
          omega
      have t7 := t6.grown2 hg6 (fun j hj => by
        rcases hob j hj with h1 | h1
        · left; omega
        · right; exact h1)
      replace hown6 := own_snoc_int y rfl hown6
      obtain ⟨z7, hz7⟩ := KeptB.fst t7
      rw [hz7] at hown6 ⊢
      clear hg6 hat6 t7 t6 ho5 hz7
      go_roundw
      case rel => exact ⟨k + 1, z7, rfl, by omega, by go_num, by rw [HSX2.out]; exact hown6, hob6⟩
      case measure => simp [intOf]; omega
    · obtain rfl : k = q := by omega
      rw [List.take_of_length_le (by have := HLQ.out; omega)] at hown
      obtain ⟨A5, c5, rfl, _⟩ := own_form hown
      have RO := RIs.of hown (by omega)
      have hBz := z.up hB1 (by omega)
      have hlt' : ¬ (k : Int) < k := by omega
      go_wp2_with fail
      refine (ascending_is _ RO.ird).mono ?_
      rintro r w6 ⟨A6, c6, rfl, I6, hb6⟩
      have hB6 := below_then hBz hb6
      have hs6 := hBz.size
      go_wp2
      go_ret
      exact ⟨_, _, _, rfl, I6.wide hs6 (Nat.le_refl _), hB6⟩
end Go.Proofs.Ytljggmgijadjaaa
