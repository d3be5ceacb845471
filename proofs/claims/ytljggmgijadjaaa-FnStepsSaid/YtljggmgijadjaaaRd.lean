/- What a function is told of its arguments, one hypothesis an argument; what a call's own values give of it. -/
import Derived.Test.YtljggmgijadjaaaArgs2
namespace Go.Proofs.Ytljggmgijadjaaa
open Go.RowKit Go.ChangeShapes Go.WideShapes Go.ChangeAt Go.Deep
set_option linter.unusedVariables false
structure Wk where
  st : Int
  steps : List St
deriving DecidableEq
structure IRd (w : World) (A : Option Addr) (n : Nat) (xs : List Int) : Prop where
  ln : xs.length = n
  rd : Reads w w.heap.size 1 A n (xs.map iv)
  bd : n ≤ 2000000
structure SRd (w : World) (A : Option Addr) (n : Nat) (xs : List St) : Prop where
  ln : xs.length = n
  rd : Reads w w.heap.size 2 A n (stcs xs)
  bd : n ≤ 2000000
structure ERd (w : World) (A : Option Addr) (n : Nat) (xs : List E) : Prop where
  ln : xs.length = n
  rd : Reads w w.heap.size 4 A n (ecs xs)
  bd : n ≤ 2000000
structure CRd (w : World) (A : Option Addr) (n : Nat) (xs : List Cg) : Prop where
  ln : xs.length = n
  rd : Reads w w.heap.size 5 A n (cgcs xs)
  bd : n ≤ 2000000
structure GRd (w : World) (A : Option Addr) (n : Nat) (B : Option Addr) (m : Nat) (g : G) : Prop where
  gr : GReads w A n B m g
  bn : n ≤ 2000000
  bm : m ≤ 2000000
section
variable {w W : World} {A B : Option Addr} {n c m d lo hi : Nat}
theorem IRd.up {xs : List Int} (h : IRd W A n xs) (hb : Below W.heap.size W w) : IRd w A n xs := ⟨h.ln, reads_up h.rd hb, h.bd⟩
theorem SRd.up {xs : List St} (h : SRd W A n xs) (hb : Below W.heap.size W w) : SRd w A n xs := ⟨h.ln, reads_up h.rd hb, h.bd⟩
theorem ERd.up {xs : List E} (h : ERd W A n xs) (hb : Below W.heap.size W w) : ERd w A n xs := ⟨h.ln, reads_up h.rd hb, h.bd⟩
theorem CRd.up {xs : List Cg} (h : CRd W A n xs) (hb : Below W.heap.size W w) : CRd w A n xs := ⟨h.ln, reads_up h.rd hb, h.bd⟩
theorem GRd.up {g : G} (h : GRd W A n B m g) (hb : Below W.heap.size W w) : GRd w A n B m g := ⟨h.gr.up hb, h.bn, h.bm⟩
theorem GRd.ints {g : G} (h : GRd w A n B m g) : IRd w A n g.vs := ⟨h.gr.ln, h.gr.rv, h.bn⟩
theorem GRd.edges {g : G} (h : GRd w A n B m g) : ERd w B m g.es := ⟨h.gr.lm, h.gr.re, h.bm⟩
theorem RIs.ird {xs : List Int} (h : RIs w lo hi 3 1 A n c (xs.map iv)) : IRd w A n xs := ⟨by simpa using h.len, h.reads, h.bd⟩
theorem RIs.srd {xs : List St} (h : RIs w lo hi 33 2 A n c (stcs xs)) : SRd w A n xs := ⟨by have := h.len; rw [stcs_len] at this; omega, h.reads, h.bd⟩
theorem RIs.erd {xs : List E} (h : RIs w lo hi 48 4 A n c (ecs xs)) : ERd w A n xs := ⟨by have := h.len; rw [ecs_len] at this; omega, h.reads, h.bd⟩
theorem GIs.grd {g : G} (h : GIs w lo hi A n c B m d (g.vs.map iv) (ecs g.es)) : GRd w A n B m g := ⟨h.greads, h.ou.bd, h.ov.bd⟩
end
section
variable (w : World) {A B : Option Addr} {n c m d : Nat}
end
end Go.Proofs.Ytljggmgijadjaaa
