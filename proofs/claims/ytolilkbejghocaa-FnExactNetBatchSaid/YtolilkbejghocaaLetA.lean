/- Contracts of the letters' functions of both packages: isLetter, IsMove, InverseLetter. -/
import Derived.Test.YtolilkbejghocaaNum
namespace Go.Proofs.Ytolilkbejghocaa
open Go.RowKit Go.ChangeShapes Go.WideShapes Go.ChangeAt Go.Deep
set_option linter.unusedVariables false

theorem isLetter_any (n : Int) (w : World) :
    Calls Try.prog 125 #[.int .i64 n] w fun e w' => e = .returned (.bool (inB n 0 8)) ∧ w = w' := by
  go_enter Try.func125, Try.ntmps125
  go_wp2_with (go_at_call 84; refine (within_any _ _ _ _).mono ?_; rintro e w' ⟨rfl, rfl⟩)
  go_ret
  exact ⟨rfl, rfl⟩
theorem specIsMove_any (n : Int) (w : World) :
    Calls Try.prog 123 #[.int .i64 n] w fun e w' => e = .returned (.bool (inB n 0 5)) ∧ w = w' := by
  go_enter Try.func123, Try.ntmps123
  go_wp2_with (go_at_call 83; refine (l1In_any _ _ _ _).mono ?_; rintro e w' ⟨rfl, rfl⟩)
  go_ret
  exact ⟨rfl, rfl⟩

def invL (n : Int) : Int := if inB n 0 5 then bits .xor .i64 n 1 else n
theorem specInverse_any (n : Int) (w : World) :
    Calls Try.prog 62 #[.int .i64 n] w fun e w' => e = .returned (.int .i64 (invL n)) ∧ w = w' := by
  cases hb : inB n 0 5
  · have H : invL n = n := by simp [invL, hb]
    rw [H]; clear H
    go_enter Try.func62, Try.ntmps62
    go_wp2_with (go_at_call 123; refine (specIsMove_any _ _).mono ?_; rintro e w' ⟨rfl, rfl⟩)
    go_ret
    exact ⟨rfl, rfl⟩
  · have H : invL n = bits .xor .i64 n 1 := by simp [invL, hb]
    rw [H]; clear H
    go_enter Try.func62, Try.ntmps62
    go_wp2_with (go_at_call 123; refine (specIsMove_any _ _).mono ?_; rintro e w' ⟨rfl, rfl⟩)
    go_ret
    exact ⟨rfl, rfl⟩

end Go.Proofs.Ytolilkbejghocaa
