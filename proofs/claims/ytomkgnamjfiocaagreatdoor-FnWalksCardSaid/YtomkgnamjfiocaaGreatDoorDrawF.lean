/- A node drawn; the draws of FnSteps. -/
import Derived.Test.YtomkgnamjfiocaaGreatDoorDrawA
import Derived.Test.YtomkgnamjfiocaaGreatDoorArgB
namespace Go.Proofs.YtomkgnamjfiocaaGreatDoor
open Go.RowKit Go.ChangeShapes Go.WideShapes Go.ChangeAt Go.Deep
set_option linter.unusedVariables false
set_option maxRecDepth 4000 in
set_option maxHeartbeats 4000000 in
theorem l4Node_any (w : World) {cb : Nat} (hC : Cur w cb) {A : Option Addr} {n c : Nat} {B : Option Addr} {m d : Nat} (hn : n ≤ 5) :
    Calls Tryz.prog 84 #[.pointer (some ⟨cb, 0, none⟩), .agg #[.slice A n c, .slice B m d]] w fun e w' => ∃ q : Int, e = .returned (.int .i64 q) ∧ (Lit.int .i64 q).wf = true ∧ Cur w' cb ∧ Tch cb (cb + 1) w w' := by
  have hcb := hC.lt
  have b0 : Below w.heap.size w (w.alloc (.cells #[.slice A n c, .slice B m d] 27)) := (Below.refl _ _).alloc (Nat.le_refl _) _
  have X0 := Blk.new w 27 #[.slice A n c, .slice B m d]
  have C0 := hC.below b0
  have T0 : Tch cb (cb + 1) w (w.alloc (.cells #[.slice A n c, .slice B m d] 27)) := Tch.of_below b0
  generalize hw0 : w.alloc (.cells #[.slice A n c, .slice B m d] 27) = w0 at *
  have HW0 := Lib.hid hw0
  clear hw0 b0
  go_enter Tryz.func84, Tryz.ntmps84
  go_wp2_with fail
  rw [HW0.out]
  refine (l1Once_any w0 C0 14 (by omega) (by omega)).mono ?_
  rintro e w1 ⟨b, rfl, C1, t1⟩
  have X1 := X0.tch t1 (by omega)
  cases b
  · have x0 := X1.cell 0
    go_wp2_with fail
    all_goals
      refine (l1Below_all w1 C1 _ (by omega)).mono ?_
      rintro e w2 ⟨x, rfl, hx0, hx1, C2, t2⟩
      have hwf := wf_of (q := x) (by omega) (by omega)
      have T := (T0.trans t1).trans t2
      clear t1 t2 X0 X1 x0
      go_wp2
      go_ret
      exact ⟨_, rfl, hwf, C2, T⟩
  · go_wp2_with fail
    refine (pick_lit w1 C1 [-1, 5, 9223372036854775807] 3 rfl (by omega) (by omega)).mono ?_
    rintro e w2 ⟨x, hx, rfl, C2, t2⟩
    have hb : -1 ≤ x ∧ x ≤ 9223372036854775807 := by
      simp at hx
      omega
    have hwf := wf_of (q := x) (by omega) hb.2
    have T := (T0.trans t1).trans t2
    clear hx hb t1 t2 X0 X1
    go_wp2
    go_ret
    exact ⟨_, rfl, hwf, C2, T⟩
end Go.Proofs.YtomkgnamjfiocaaGreatDoor
