/- InsertEdge of the reference. -/
import Derived.Test.YtcnbgpelfkbmpaaDoorIns2
import Derived.Test.YtcnbgpelfkbmpaaDoorDelS
namespace Go.Proofs.YtcnbgpelfkbmpaaDoor
open Go.RowKit Go.ChangeShapes Go.WideShapes Go.ChangeAt Go.Deep
set_option linter.unusedVariables false
/-- What a cut behind k elements reads. -/
theorem reads_cut0 {w : World} {B size k n cap b o : Nat} {xs : List Value} (h : Reads w B size (some ⟨b, o, none⟩) n xs) (hk : k ≤ n) (hc : n ≤ cap) :
    ∃ A1, (if cap = k then (some ⟨b, o, none⟩ : Option Addr) else some ⟨b, o + k * size, none⟩) = A1 ∧ Reads w B size A1 (n - k) (xs.drop (k * size)) := by
  have := h.cut (k := k) (cap := cap) hk hc
  rw [Option.map_some, add_plain] at this
  exact ⟨_, rfl, this⟩
theorem reads_cutv {w : World} {B size k n cap : Nat} {A : Option Addr} {xs : List Value} (h : Reads w B size A n xs) (hk : k ≤ n) (hc : n ≤ cap) :
    ∃ A1, (if cap = k then A else A.map (fun x => x.add (k * size))) = A1 ∧ Reads w B size A1 (n - k) (xs.drop (k * size)) := ⟨_, rfl, h.cut hk hc⟩
theorem reads_newW {w : World} {e : TypeId} {size m : Nat} (cs : Array Value) (h : cs.size = m * size) : Reads (w.alloc (.cells cs e)) (w.alloc (.cells cs e)).heap.size size (some ⟨w.heap.size, 0, none⟩) m cs.toList :=
  (reads_new (e := e) cs h).more (by simp)
theorem ap_stepW {P : Program} (w : World) {t e : TypeId} {z : Value} {size bytes : Nat} (T : AppTy P t e z size bytes) (hb64 : bytes ≤ 64) (base : Nat) {ops : Array Oper} {o : Oper} {a : Act} {K : Act → World → Prop} {Q : Exit → Act → World → Prop} {E : Prop} (s x : Operand)
    (hgd : o.guard = none) (ho : o.op = .call { callee := .builtin .append, args := #[s, x], argTypes := #[t, t] })
    (v : Value) (n : Nat) (xs : List Value) (hs : a.eval s = v) (hown : w.ownsRow base e size v n xs)
    (A : Option Addr) (m c : Nat) (news : List Value) (hx : a.eval x = .slice A m c) (hr : Reads w w.heap.size size A m news) (h1 : ∀ u ∈ news, u.oneCell' = true)
    (hsm : Small (n + m)) (hbase : base ≤ w.heap.size)
    (h : ∀ v' w', w'.ownsRow base e size v' (n + m) (xs ++ news) → w.grownBy w' v.ownBlock → (v'.ownBlock = v.ownBlock ∨ v'.ownBlock = some w.heap.size) → K (a.put o.dst v') w') :
    if Region.wanted o (yielded ops a.tmps) = true then Oper.wp P o a w K Q else E :=
  ap_step w T hb64 base s x hgd ho v n xs hs hown w.heap.size A m c news hx hr h1 hsm hbase h
end Go.Proofs.YtcnbgpelfkbmpaaDoor
