/- BatchBetween of the program. -/
import Derived.Test.YtcnbgpelfkbmpaaDoorCont
import Derived.Test.YtcnbgpelfkbmpaaDoorEqG
import Derived.Test.YtcnbgpelfkbmpaaDoorInvB
namespace Go.Proofs.YtcnbgpelfkbmpaaDoor
open Go.RowKit Go.ChangeShapes Go.WideShapes Go.ChangeAt Go.Deep
set_option linter.unusedVariables false
def accB (ins : Bool) (es other : List E) (k : Nat) : List Cg := ((es.take k).filter fun e => !hasB other e).map fun e => ⟨ins, e⟩
theorem accB_succ (ins : Bool) {es : List E} (other : List E) {k : Nat} {e : E} (h : es[k]? = some e) : accB ins es other (k + 1) = accB ins es other k ++ (if hasB other e then [] else [⟨ins, e⟩]) := by
  unfold accB
  rw [filter_succ _ h, List.map_append]
  cases hasB other e <;> simp
theorem accB_len (ins : Bool) (es other : List E) (k : Nat) : (accB ins es other k).length ≤ k := by
  unfold accB
  rw [List.length_map]
  exact filter_take_len _ _ _
def btwL (a b : G) : List Cg := accB false a.es b.es a.es.length ++ accB true b.es a.es b.es.length
def btwPre (a b : G) : Bool := validG a && validG b && eqB a.vs b.vs
def btwOk (a b : G) : Bool := btwPre a b && decide ((btwL a b).length ≤ 6)
def btwZ (a b : G) : List Cg := if btwOk a b then btwL a b else []
theorem btwOk_pre {a b : G} (h : btwPre a b = false) : btwOk a b = false := by simp [btwOk, h]
theorem btwOk_len {a b : G} (h : btwPre a b = true) : btwOk a b = decide ((btwL a b).length ≤ 6) := by simp [btwOk, h]
theorem btwZ_no {a b : G} (h : btwOk a b = false) : btwZ a b = [] := by simp [btwZ, h]
theorem btwZ_yes {a b : G} (h : btwOk a b = true) : btwZ a b = btwL a b := by simp [btwZ, h]
theorem own_snoc_cg1 {w : World} {base q : Nat} {e : TypeId} {v x : Value} {L : List Cg} (y : Cg) (hx : x = .agg #[.bool y.ins, .int .i64 y.e.id, .int .i64 y.e.fr, .int .i64 y.e.to, .int .i64 y.e.lb]) (h : w.ownsRow base e 5 v (q + 1) (cgcs L ++ x.cells.toList)) : w.ownsRow base e 5 v (q + 1) (cgcs (L ++ [y])) := by
  subst hx
  rw [cgcs_append]
  exact h
theorem ris_nil0 (w : World) (e : TypeId) (size : Nat) : RIs w w.heap.size w.heap.size e size none 0 0 [] := RIs.of (World.ownsRow_nil _ _ _ _) (by omega)
end Go.Proofs.YtcnbgpelfkbmpaaDoor
