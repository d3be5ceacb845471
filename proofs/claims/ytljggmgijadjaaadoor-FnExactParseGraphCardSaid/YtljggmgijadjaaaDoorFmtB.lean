/- FormatBatch of both packages. -/
import Derived.Test.YtljggmgijadjaaaDoorFmtWk
namespace Go.Proofs.YtljggmgijadjaaaDoor
open Go.RowKit Go.ChangeShapes Go.WideShapes Go.ChangeAt Go.Deep
set_option linter.unusedVariables false
theorem fmtC_len (c : Cg) : (fmtC c).length ≤ 17 := by
  have := fmtE_len c.e
  unfold fmtC
  simp
  omega
theorem fmtCs_len : ∀ (l : List Cg), (Lib.join (l.map fmtC) [32]).length ≤ 18 * l.length
  | [] => by simp [Lib.join_nil]
  | x :: r => by
    rw [List.map_cons, Lib.join_length]
    have : ∀ r : List Cg, Lib.lens (r.map fmtC) ≤ 17 * r.length := by
      intro r
      induction r with
      | nil => simp [Lib.lens]
      | cons y r ih =>
        have h1 := fmtC_len y
        simp [Lib.lens] at ih ⊢
        omega
    have := this (x :: r)
    simp at this ⊢
    omega
def cgOk (c : Cg) : Bool := okE 5 c.e
theorem fmtCs_take {l : List Cg} {k : Nat} {s : Cg} (h : l[k]? = some s) : Lib.join ((l.take (k + 1)).map fmtC) [32] = if k = 0 then fmtC s else Lib.join ((l.take k).map fmtC) [32] ++ [32] ++ fmtC s := by
  have := join_succ (l.map fmtC) [32] (fmtC s) k (by rw [List.getElem?_map, h]; rfl)
  rwa [List.map_take, List.map_take] 
theorem signed_sv (q : UInt8) (J : ByteArray) (c : Cg) (hJ : J.data.toList = fmtE c.e) (hq : q = if c.ins then 43 else 45) : Value.string (⟨#[q]⟩ ++ J) = sv (fmtC c) := by
  unfold sv fmtC
  rw [← hJ, ← hq]
  exact congrArg Value.string (ba_ext (by simp))
end Go.Proofs.YtljggmgijadjaaaDoor
