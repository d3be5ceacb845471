/- Contracts of the letters' functions of both packages: isLetter, IsMove, InverseLetter. -/
import Derived.Test.YtljggmgijadjaaaNum
namespace Go.Proofs.Ytljggmgijadjaaa
open Go.RowKit Go.ChangeShapes Go.WideShapes Go.ChangeAt Go.Deep
set_option linter.unusedVariables false

theorem isLetter_any (n : Int) (w : World) :
    Calls Try.prog 30 #[.int .i64 n] w fun e w' => e = .returned (.bool (inB n 0 8)) ∧ w = w' := by
  go_enter Try.func30, Try.ntmps30
  go_wp2_with (go_at_call 29; refine (within_any _ _ _ _).mono ?_; rintro e w' ⟨rfl, rfl⟩)
  go_ret
  exact ⟨rfl, rfl⟩
theorem specIsMove_any (n : Int) (w : World) :
    Calls Try.prog 26 #[.int .i64 n] w fun e w' => e = .returned (.bool (inB n 0 5)) ∧ w = w' := by
  go_enter Try.func26, Try.ntmps26
  go_wp2_with (go_at_call 31; refine (l1In_any _ _ _ _).mono ?_; rintro e w' ⟨rfl, rfl⟩)
  go_ret
  exact ⟨rfl, rfl⟩

def invL (n : Int) : Int := if inB n 0 5 then bits .xor .i64 n 1 else n
theorem specInverse_any (n : Int) (w : World) :
    Calls Try.prog 11 #[.int .i64 n] w fun e w' => e = .returned (.int .i64 (invL n)) ∧ w = w' := by
  cases hb : inB n 0 5
  · have H : invL n = n := by simp [invL, hb]
    rw [H]; clear H
    go_enter Try.func11, Try.ntmps11
    go_wp2_with (go_at_call 26; refine (specIsMove_any _ _).mono ?_; rintro e w' ⟨rfl, rfl⟩)
    go_ret
    exact ⟨rfl, rfl⟩
  · have H : invL n = bits .xor .i64 n 1 := by simp [invL, hb]
    rw [H]; clear H
    go_enter Try.func11, Try.ntmps11
    go_wp2_with (go_at_call 26; refine (specIsMove_any _ _).mono ?_; rintro e w' ⟨rfl, rfl⟩)
    go_ret
    exact ⟨rfl, rfl⟩

end Go.Proofs.Ytljggmgijadjaaa
