/- A batch drawn: what stands in the loop of l6Batch, carried from world to world. -/
import Derived.Test.YtomkgnamjfiocaaGreatDoorDrwX
import Derived.Test.YtomkgnamjfiocaaGreatDoorAp2
import Derived.Test.YtomkgnamjfiocaaGreatDoorBtN
namespace Go.Proofs.YtomkgnamjfiocaaGreatDoor
open Go.RowKit Go.ChangeShapes Go.WideShapes Go.ChangeAt Go.Deep
set_option linter.unusedVariables false
theorem rG_one {g : G} {c : Cg} (hm : g.es.length ≤ 12) : (rG g [c]).1.vs = g.vs ∧ (rG g [c]).1.es.length ≤ 12 := by
  cases hs : stepG g c with
  | none =>
    have : runG g [c] = none := by rw [runG_cons, hs]; rfl
    rw [rG_none this]
    exact ⟨rfl, hm⟩
  | some y =>
    have : runG g [c] = some y := by rw [runG_cons, hs]; rfl
    rw [rG_some this]
    rcases step_to hs with ⟨_, ho, rfl⟩ | ⟨_, he, rfl⟩
    · exact ⟨(mem_ins ho).1, (validG_iff (insG_law ho).1).2.2⟩
    · unfold delG
      split
      · refine ⟨rfl, ?_⟩
        simp only [List.length_append, List.length_take, List.length_drop]
        omega
      · exact ⟨rfl, hm⟩
theorem blk_ne {w : World} {g h : Nat} {t t' : TypeId} {cs cs' : Array Value} (X : Blk w g t cs) (Y : Blk w h t' cs') (hne : t ≠ t') : g ≠ h := by
  rintro rfl
  unfold Blk at X Y
  rw [X] at Y
  injection Y with Y
  injection Y with _ ht
  exact hne ht
/-- What stands in the loop of l6Batch. -/
structure Bt (w : World) (cb b8 : Nat) (v : Value) (k : Nat) (L : List Cg) (A : Option Addr) (n c : Nat) (B : Option Addr) (m d : Nat) (gx : G) (wr : World) : Prop where
  hcb : cb < w.heap.size
  h8 : w.heap.size + 2 < b8
  n5 : n ≤ 5
  m12 : m ≤ 12
  lL : L.length = k
  XR : Blk wr (w.heap.size + 1) 47 #[.slice none 0 0]
  XB : Blk wr (w.heap.size + 2) 47 #[v]
  ho : wr.ownsRow w.heap.size 92 5 v k (cgcs L)
  X8 : Blk wr b8 27 #[.slice A n c, .slice B m d]
  ov : wr.ownsRow w.heap.size 3 1 (.slice A n c) n (gx.vs.map iv)
  oe : wr.ownsRow w.heap.size 90 4 (.slice B m d) m (ecs gx.es)
  CR : Cur wr cb
  T : Tch cb (cb + 1) w wr
section
variable {w wr w' : World} {cb b8 k n c m d : Nat} {v : Value} {L : List Cg} {A B : Option Addr} {gx : G}
theorem Bt.below (h : Bt w cb b8 v k L A n c B m d gx wr) (hb : Below wr.heap.size wr w') : Bt w cb b8 v k L A n c B m d gx w' :=
  ⟨h.hcb, h.h8, h.n5, h.m12, h.lL, h.XR.below hb h.XR.lt, h.XB.below hb h.XB.lt, own_below h.ho hb (Nat.le_refl _), h.X8.below hb h.X8.lt, own_below h.ov hb (Nat.le_refl _), own_below h.oe hb (Nat.le_refl _), h.CR.below hb, h.T.below hb⟩
theorem Bt.tch (h : Bt w cb b8 v k L A n c B m d gx wr) (t : Tch cb (cb + 1) wr w') (hC : Cur w' cb) : Bt w cb b8 v k L A n c B m d gx w' := by
  have h1 := h.hcb
  have h2 := h.h8
  exact ⟨h.hcb, h.h8, h.n5, h.m12, h.lL, h.XR.tch t (by omega), h.XB.tch t (by omega), own_tch h.ho t h1, h.X8.tch t (by omega), own_tch h.ov t h1, own_tch h.oe t h1, hC, h.T.trans t⟩
theorem Bt.chg (h : Bt w cb b8 v k L A n c B m d gx wr) {z : Nat} {cs : Array Value} (Z : Blk wr z 92 cs) (hz : w.heap.size ≤ z) (hne : ∀ q, v.ownBlock = some q → q ≠ z) (i : Nat) (u : Value) : Bt w cb b8 v k L A n c B m d gx (wr.setCell ⟨z, i, none⟩ u) := by
  have h1 := h.hcb
  refine ⟨h.hcb, h.h8, h.n5, h.m12, h.lL, h.XR.far_ (blk_ne h.XR Z (by decide)) i u, h.XB.far_ (blk_ne h.XB Z (by decide)) i u, ?_, h.X8.far_ (blk_ne h.X8 Z (by decide)) i u, own_set h.ov Z (by decide), own_set h.oe Z (by decide), h.CR.tch ((Tch.refl z (z + 1) wr).setCell (p := ⟨z, i, none⟩) (Nat.le_refl _) (Nat.lt_succ_self _) u) (by omega), h.T.past hz i u⟩
  refine own_same h.ho fun q hq => Below.heap_setCell wr ⟨z, i, none⟩ u q ?_
  intro e
  exact hne q hq e
/-- The change is appended to the row, the row laid into its box. -/
theorem Bt.app (h : Bt w cb b8 v k L A n c B m d gx wr) (x : Cg) {v' : Value} (hg : wr.grownBy w' v.ownBlock) (hown : w'.ownsRow w.heap.size 92 5 v' (k + 1) (cgcs (L ++ [x]))) : Bt w cb b8 v' (k + 1) (L ++ [x]) A n c B m d gx (w'.setCell ⟨w.heap.size + 2, 0, none⟩ v') := by
  have h1 := h.hcb
  have XR := blk_grown h.XR h.ho hg (by decide)
  have XB := blk_grown h.XB h.ho hg (by decide)
  have X8 := blk_grown h.X8 h.ho hg (by decide)
  have ov : w'.ownsRow w.heap.size 3 1 (.slice A n c) n (gx.vs.map iv) := own_same h.ov fun q hq => hg.block q (ownBlock_some h.ov hq).2 fun hh => own_ne h.ov h.ho (by decide) q hq hh.symm
  have oe : w'.ownsRow w.heap.size 90 4 (.slice B m d) m (ecs gx.es) := own_same h.oe fun q hq => hg.block q (ownBlock_some h.oe hq).2 fun hh => own_ne h.oe h.ho (by decide) q hq hh.symm
  have CR := h.CR.grown h.ho h1 hg
  have T := h.T.grown2 hg (fun g hh => .inr (ownBlock_some h.ho hh).1)
  have h8 := h.h8
  exact ⟨h.hcb, h.h8, h.n5, h.m12, by rw [List.length_append, h.lL]; rfl, XR.far_ (by omega) _ _, XB.set_ 0 v', own_set hown XB (by decide), X8.far_ (by omega) _ _, own_set ov XB (by decide), own_set oe XB (by decide), CR.tch ((Tch.refl (w.heap.size + 2) (w.heap.size + 3) w').setCell (p := ⟨w.heap.size + 2, 0, none⟩) (Nat.le_refl _) (Nat.lt_succ_self _) v') (by omega), T.past (by omega) 0 v'⟩
/-- Another graph is laid into the box of the graph. -/
theorem Bt.lay (h : Bt w cb b8 v k L A n c B m d gx wr) {A' B' : Option Addr} {n' c' m' d' : Nat} {gy : G} (hn : n' ≤ 5) (hm : m' ≤ 12) (ov : wr.ownsRow w.heap.size 3 1 (.slice A' n' c') n' (gy.vs.map iv)) (oe : wr.ownsRow w.heap.size 90 4 (.slice B' m' d') m' (ecs gy.es)) :
    Bt w cb b8 v k L A' n' c' B' m' d' gy ((wr.setCell ⟨b8, 0, none⟩ (.slice A' n' c')).setCell ⟨b8, 1, none⟩ (.slice B' m' d')) := by
  have h1 := h.hcb
  have h8 := h.h8
  have X8 := h.X8
  have X9 := X8.set_ 0 (.slice A' n' c')
  exact ⟨h.hcb, h.h8, hn, hm, h.lL, (h.XR.far_ (by omega) _ _).far_ (by omega) _ _, (h.XB.far_ (by omega) _ _).far_ (by omega) _ _, own_set (own_set h.ho X8 (by decide)) X9 (by decide), X9.set_ 1 _, own_set (own_set ov X8 (by decide)) X9 (by decide), own_set (own_set oe X8 (by decide)) X9 (by decide), h.CR.tch (((Tch.refl b8 (b8 + 1) wr).setCell (p := ⟨b8, 0, none⟩) (Nat.le_refl _) (Nat.lt_succ_self _) _).setCell (p := ⟨b8, 1, none⟩) (Nat.le_refl _) (Nat.lt_succ_self _) _) (by omega), (h.T.past (by omega) _ _).past (by omega) _ _⟩
theorem Bt.grd (h : Bt w cb b8 v k L A n c B m d gx wr) : GRd wr A n B m gx := by
  have h5 := h.n5
  have h12 := h.m12
  exact ⟨⟨by simpa using h.ov.1, by have := h.oe.1; rw [ecs_len] at this; omega, Reads.of_own h.ov, Reads.of_own h.oe⟩, by omega, by omega⟩
end
end Go.Proofs.YtomkgnamjfiocaaGreatDoor
