/- What a function is told of its arguments, one hypothesis an argument; what a call's own values give of it. -/
import Derived.Test.YtcnbgpelfkbmpaaDoorArgs2
namespace Go.Proofs.YtcnbgpelfkbmpaaDoor
open Go.RowKit Go.ChangeShapes Go.WideShapes Go.ChangeAt Go.Deep
set_option linter.unusedVariables false
structure Wk where
  st : Int
  steps : List St
deriving DecidableEq
structure IRd (w : World) (A : Option Addr) (n : Nat) (xs : List Int) : Prop where
  ln : xs.length = n
  rd : Reads w w.heap.size 1 A n (xs.map iv)
  bd : n ≤ 2000000
structure SRd (w : World) (A : Option Addr) (n : Nat) (xs : List St) : Prop where
  ln : xs.length = n
  rd : Reads w w.heap.size 2 A n (stcs xs)
  bd : n ≤ 2000000
structure ERd (w : World) (A : Option Addr) (n : Nat) (xs : List E) : Prop where
  ln : xs.length = n
  rd : Reads w w.heap.size 4 A n (ecs xs)
  bd : n ≤ 2000000
structure CRd (w : World) (A : Option Addr) (n : Nat) (xs : List Cg) : Prop where
  ln : xs.length = n
  rd : Reads w w.heap.size 5 A n (cgcs xs)
  bd : n ≤ 2000000
structure GRd (w : World) (A : Option Addr) (n : Nat) (B : Option Addr) (m : Nat) (g : G) : Prop where
  gr : GReads w A n B m g
  bn : n ≤ 2000000
  bm : m ≤ 2000000
section
variable {w W : World} {A B : Option Addr} {n c m d lo hi : Nat}
theorem IRd.up {xs : List Int} (h : IRd W A n xs) (hb : Below W.heap.size W w) : IRd w A n xs := ⟨h.ln, reads_up h.rd hb, h.bd⟩
theorem SRd.up {xs : List St} (h : SRd W A n xs) (hb : Below W.heap.size W w) : SRd w A n xs := ⟨h.ln, reads_up h.rd hb, h.bd⟩
theorem ERd.up {xs : List E} (h : ERd W A n xs) (hb : Below W.heap.size W w) : ERd w A n xs := ⟨h.ln, reads_up h.rd hb, h.bd⟩
theorem CRd.up {xs : List Cg} (h : CRd W A n xs) (hb : Below W.heap.size W w) : CRd w A n xs := ⟨h.ln, reads_up h.rd hb, h.bd⟩
theorem GRd.up {g : G} (h : GRd W A n B m g) (hb : Below W.heap.size W w) : GRd w A n B m g := ⟨h.gr.up hb, h.bn, h.bm⟩
theorem GRd.ints {g : G} (h : GRd w A n B m g) : IRd w A n g.vs := ⟨h.gr.ln, h.gr.rv, h.bn⟩
theorem GRd.edges {g : G} (h : GRd w A n B m g) : ERd w B m g.es := ⟨h.gr.lm, h.gr.re, h.bm⟩
theorem RIs.ird {xs : List Int} (h : RIs w lo hi 3 1 A n c (xs.map iv)) : IRd w A n xs := ⟨by simpa using h.len, h.reads, h.bd⟩
theorem RIs.srd {xs : List St} (h : RIs w lo hi 113 2 A n c (stcs xs)) : SRd w A n xs := ⟨by have := h.len; rw [stcs_len] at this; omega, h.reads, h.bd⟩
theorem RIs.crd {xs : List Cg} (h : RIs w lo hi 122 5 A n c (cgcs xs)) : CRd w A n xs := ⟨by have := h.len; rw [cgcs_len] at this; omega, h.reads, h.bd⟩
theorem RIs.erd {xs : List E} (h : RIs w lo hi 35 4 A n c (ecs xs)) : ERd w A n xs := ⟨by have := h.len; rw [ecs_len] at this; omega, h.reads, h.bd⟩
theorem GIs.grd {g : G} (h : GIs w lo hi A n c B m d (g.vs.map iv) (ecs g.es)) : GRd w A n B m g := ⟨h.greads, h.ou.bd, h.ov.bd⟩
end
section
variable (w : World) {A B : Option Addr} {n c m d : Nat}
theorem toIntS_rd {xs : List Int} (h : IRd w A n xs) : Calls Tryd.prog 100 #[.slice A n c] w fun e w' => ∃ A2, e = .returned (.slice A2 n n) ∧ RIs w' w.heap.size w'.heap.size 3 1 A2 n n (xs.map iv) ∧ Below w.heap.size w w' := toInts_is w A n c xs h.ln h.bd h.rd
theorem toWalk_rd {s : Int} {xs : List St} (h : SRd w A n xs) : Calls Tryd.prog 30 #[.agg #[.int .i64 s, .slice A n c]] w fun e w' => ∃ A2, e = .returned (.agg #[.int .i64 s, .slice A2 n n]) ∧ RIs w' w.heap.size w'.heap.size 113 2 A2 n n (stcs xs) ∧ Below w.heap.size w w' := toWalk_is w s A n c xs h.ln h.bd h.rd
theorem toBatch_rd {xs : List Cg} (h : CRd w A n xs) : Calls Tryd.prog 40 #[.agg #[.slice A n c]] w fun e w' => ∃ A2, e = .returned (.agg #[.slice A2 n n]) ∧ RIs w' w.heap.size w'.heap.size 122 5 A2 n n (cgcs xs) ∧ Below w.heap.size w w' := toBatch_is w A n c xs h.ln h.bd h.rd
theorem toGraph_rd {g : G} (h : GRd w A n B m g) : Calls Tryd.prog 35 #[.agg #[.slice A n c, .slice B m d]] w fun e w' => ∃ A2 B2, e = .returned (.agg #[.slice A2 n n, .slice B2 m m]) ∧ GIs w' w.heap.size w'.heap.size A2 n n B2 m m (g.vs.map iv) (ecs g.es) ∧ Below w.heap.size w w' := toGraph_is w A B n c m d g h.gr h.bn h.bm
end
end Go.Proofs.YtcnbgpelfkbmpaaDoor
