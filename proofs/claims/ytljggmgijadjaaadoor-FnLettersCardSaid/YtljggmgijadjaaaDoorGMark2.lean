/- markGraph, heldGraph. -/
import Derived.Test.YtljggmgijadjaaaDoorGMark
namespace Go.Proofs.YtljggmgijadjaaaDoor
open Go.RowKit Go.ChangeShapes Go.WideShapes Go.ChangeAt Go.Deep
set_option linter.unusedVariables false
set_option maxRecDepth 4000 in
set_option maxHeartbeats 1000000 in
theorem markGraph_in (A B : Option Addr) (n c m d k lo hi : Nat) (xs ys : List Value) (w : World) (hn : n ≤ 2000000) (hm : m ≤ 2000000) (hk : k ≤ 50000000) (h : GIn w lo hi (.slice A n c) (.slice B m d) n m xs ys) (hlo : lo ≤ hi) (hhi : hi ≤ w.heap.size) :
    Calls Tryd.prog 9 #[.agg #[.slice A n c, .slice B m d], .int .i64 k] w fun e w' => e = .returned (.int .i64 ((k + n + m * 4 : Nat) : Int)) ∧ GIn w' lo hi (.slice A n c) (.slice B m d) n m ((marks k n).map iv) ((marks (k + n) (m * 4)).map iv) ∧ Tch lo hi w w' := by
  go_enter Tryd.func9, Tryd.ntmps9
  go_wp2_with fail
  have hB0 : Below w.heap.size w (w.alloc (.cells #[.slice A n c, .slice B m d] 25)) := (Below.refl _ _).alloc (Nat.le_refl _) _
  have kA0 : (w.alloc (.cells #[.slice A n c, .slice B m d] 25)).cell? ⟨w.heap.size, 0, none⟩ = some (.slice A n c) := by go_simp
  have kB0 : (w.alloc (.cells #[.slice A n c, .slice B m d] 25)).cell? ⟨w.heap.size, 1, none⟩ = some (.slice B m d) := by go_simp
  have hsz : w.heap.size < (w.alloc (.cells #[.slice A n c, .slice B m d] 25)).heap.size := by simp
  have T0 : Tch lo hi w (w.alloc (.cells #[.slice A n c, .slice B m d] 25)) := Tch.of_below hB0
  have h0 := h.below hB0
  refine (markIntS_any _ n k lo _ _ hn (by omega) (by omega) h0.ou.row).mono ?_
  rintro e w1 ⟨rfl, hr1, hg1⟩
  have T1 := Tch.of_grown hg1 h0.ou
  have U1 : OwnIn w1 lo hi 3 1 (.slice A n c) n ((marks k n).map iv) := ⟨hr1, h0.ou.top⟩
  have V1 := h0.ov.grown hg1 fun g hg he => h.ne g he hg
  have kB1 := cell_tch T1 kB0 (.inr hhi)
  have hsz1 := T1.size
  go_wp2_with fail
  refine (markEdgeS_in _ m (k + n) lo hi _ _ hm (by omega) V1 (by omega)).mono ?_
  rintro e w2 ⟨rfl, V2, T2, hg2⟩
  have U2 := U1.grown hg2 fun g hg => h.ne g hg
  go_wp2
  go_ret
  exact ⟨rfl, ⟨U2, V2, h.ne⟩, T0.trans (T1.trans T2)⟩
set_option maxRecDepth 4000 in
set_option maxHeartbeats 1000000 in
theorem heldGraph_any (A B : Option Addr) (n c m d k : Nat) (w : World) (hn : n ≤ 2000000) (hm : m ≤ 2000000) (hk : k ≤ 50000000) (hr : Reads w w.heap.size 1 A n ((marks k n).map iv)) (hr2 : Reads w w.heap.size 4 B m ((marks (k + n) (m * 4)).map iv)) :
    Calls Tryd.prog 10 #[.agg #[.slice A n c, .slice B m d], .int .i64 k] w fun e w' => e = .returned (.int .i64 ((k + n + m * 4 : Nat) : Int)) ∧ Below w.heap.size w w' := by
  go_enter Tryd.func10, Tryd.ntmps10
  go_wp2_with fail
  have hB0 : Below w.heap.size w (w.alloc (.cells #[.slice A n c, .slice B m d] 25)) := (Below.refl _ _).alloc (Nat.le_refl _) _
  have kB0 : (w.alloc (.cells #[.slice A n c, .slice B m d] 25)).cell? ⟨w.heap.size, 1, none⟩ = some (.slice B m d) := by go_simp
  refine (heldIntS_any A n c k _ hn (by omega) (reads_up hr hB0)).mono ?_
  rintro e w1 ⟨rfl, hb1⟩
  have kB1 := cell_keep hb1 kB0
  have hB1 := below_then hB0 hb1
  clear kB0 hb1 hB0
  go_wp2_with fail
  refine (heldEdgeS_any B m d (k + n) _ hm (by omega) (reads_up hr2 hB1)).mono ?_
  rintro e w2 ⟨rfl, hb2⟩
  go_wp2
  go_ret
  exact ⟨rfl, below_then hB1 hb2⟩
end Go.Proofs.YtljggmgijadjaaaDoor
