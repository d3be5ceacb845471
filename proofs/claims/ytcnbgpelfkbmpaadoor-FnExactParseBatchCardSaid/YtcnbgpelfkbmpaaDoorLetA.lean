/- Contracts of the letters' functions of both packages: isLetter, IsMove, InverseLetter. -/
import Derived.Test.YtcnbgpelfkbmpaaDoorNum
namespace Go.Proofs.YtcnbgpelfkbmpaaDoor
open Go.RowKit Go.ChangeShapes Go.WideShapes Go.ChangeAt Go.Deep
set_option linter.unusedVariables false

theorem isLetter_any (n : Int) (w : World) :
    Calls Tryd.prog 119 #[.int .i64 n] w fun e w' => e = .returned (.bool (inB n 0 8)) ∧ w = w' := by
  go_enter Tryd.func119, Tryd.ntmps119
  go_wp2_with (go_at_call 91; refine (within_any _ _ _ _).mono ?_; rintro e w' ⟨rfl, rfl⟩)
  go_ret
  exact ⟨rfl, rfl⟩
theorem implIsMove_any (n : Int) (w : World) :
    Calls Tryd.prog 62 #[.int .i64 n] w fun e w' => e = .returned (.bool (inB n 0 5)) ∧ w = w' := by
  go_enter Tryd.func62, Tryd.ntmps62
  go_wp2_with (go_at_call 91; refine (within_any _ _ _ _).mono ?_; rintro e w' ⟨rfl, rfl⟩)
  go_ret
  exact ⟨rfl, rfl⟩
theorem specIsMove_any (n : Int) (w : World) :
    Calls Tryd.prog 63 #[.int .i64 n] w fun e w' => e = .returned (.bool (inB n 0 5)) ∧ w = w' := by
  go_enter Tryd.func63, Tryd.ntmps63
  go_wp2_with (go_at_call 92; refine (l1In_any _ _ _ _).mono ?_; rintro e w' ⟨rfl, rfl⟩)
  go_ret
  exact ⟨rfl, rfl⟩

def invL (n : Int) : Int := if inB n 0 5 then bits .xor .i64 n 1 else n
theorem implInverse_any (n : Int) (w : World) :
    Calls Tryd.prog 60 #[.int .i64 n] w fun e w' => e = .returned (.int .i64 (invL n)) ∧ w = w' := by
  cases hb : inB n 0 5
  · have H : invL n = n := by simp [invL, hb]
    rw [H]; clear H
    go_enter Tryd.func60, Tryd.ntmps60
    go_wp2_with (go_at_call 62; refine (implIsMove_any _ _).mono ?_; rintro e w' ⟨rfl, rfl⟩)
    go_ret
    exact ⟨rfl, rfl⟩
  · have H : invL n = bits .xor .i64 n 1 := by simp [invL, hb]
    rw [H]; clear H
    go_enter Tryd.func60, Tryd.ntmps60
    go_wp2_with (go_at_call 62; refine (implIsMove_any _ _).mono ?_; rintro e w' ⟨rfl, rfl⟩)
    go_ret
    exact ⟨rfl, rfl⟩
theorem specInverse_any (n : Int) (w : World) :
    Calls Tryd.prog 61 #[.int .i64 n] w fun e w' => e = .returned (.int .i64 (invL n)) ∧ w = w' := by
  cases hb : inB n 0 5
  · have H : invL n = n := by simp [invL, hb]
    rw [H]; clear H
    go_enter Tryd.func61, Tryd.ntmps61
    go_wp2_with (go_at_call 63; refine (specIsMove_any _ _).mono ?_; rintro e w' ⟨rfl, rfl⟩)
    go_ret
    exact ⟨rfl, rfl⟩
  · have H : invL n = bits .xor .i64 n 1 := by simp [invL, hb]
    rw [H]; clear H
    go_enter Tryd.func61, Tryd.ntmps61
    go_wp2_with (go_at_call 63; refine (specIsMove_any _ _).mono ?_; rintro e w' ⟨rfl, rfl⟩)
    go_ret
    exact ⟨rfl, rfl⟩

end Go.Proofs.YtcnbgpelfkbmpaaDoor
