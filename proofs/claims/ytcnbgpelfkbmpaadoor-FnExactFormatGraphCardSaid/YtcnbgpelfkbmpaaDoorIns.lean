/- slices.Insert of one element over edges: a row of the call's own. -/
import Derived.Test.YtcnbgpelfkbmpaaDoorDel
import Derived.Shelf.Spec.SlicesInsertGrow
namespace Go.Proofs.YtcnbgpelfkbmpaaDoor
open Go.RowKit Go.ChangeShapes Go.WideShapes Go.ChangeAt Go.Deep
set_option linter.unusedVariables false
/-- copy over elements of more than one cell: all is read before anything is written. -/
theorem run_copy_wide {P : Program} (w : World) (dT sT ty elem : TypeId) (b o dLen dCap : Nat) (a : Addr) (sLen sCap m size : Nat) (cs : List Value)
    (hu : P.underlying dT = some (.slice elem)) (hs : (P.info? elem).map (·.size) = some size) (hm : Nat.min sLen dLen = m) (hn : cs.length = m * size)
    (hsrc : ∀ j v, cs[j]? = some v → w.cell? (a.add j) = some v) (hc : ∀ j, j < cs.length → (w.cell? ⟨b, o + j, none⟩).isSome = true) (hf : ∀ j, j < cs.length → w.frozen? ⟨b, o + j, none⟩ = false) (h1 : ∀ v ∈ cs, v.oneCell' = true) :
    (Builtin.copy_ #[dT, sT] ty #[.slice (some ⟨b, o, none⟩) dLen dCap, .slice (some a) sLen sCap]).run P w = .ok (goInt m) (w.setCells b o cs) := by
  have hl := run_loadCells_list (P := P) w a cs hsrc
  have hst := run_storeCells_cells (P := P) b o cs 0 w (by simpa using hc) (by simpa using hf) h1
  cases hq : P.info? elem with
  | none => simp [hq] at hs
  | some i =>
    have hi : i.size = size := by simpa [hq] using hs
    rw [hn] at hl
    simp [Builtin.copy_, run_underlying hu, Builtin.lenOf, Builtin.firstCells, sizeOf, typeInfo, hq, hi, hm, hl, hst]
theorem blk_reads {w : World} {g : Nat} {t : TypeId} {vs : List Value} {n size : Nat} (h : Blk w g t vs.toArray) (hl : vs.length = n * size) : Reads w w.heap.size size (some ⟨g, 0, none⟩) n vs :=
  ⟨hl, fun _ => ⟨_, rfl, h.lt, fun j u hu => by rw [add_plain, Nat.zero_add, h.cell]; simpa using hu⟩⟩
theorem Tch.one {w w' : World} {g : Nat} (t : Tch g (g + 1) w w') : w.grownBy w' (some g) := ⟨t.os, t.tape, t.output, t.size, fun k hk hne => t.block k hk (by
  have : k ≠ g := fun e => hne (by rw [e])
  omega)⟩
/-- What stood from element k on moved one to the right, an element laid there. -/
theorem own_ins {w : World} {base g n cap size k : Nat} {e : TypeId} {xs vs : List Value} (h : w.ownsRow base e size (.slice (some ⟨g, 0, none⟩) n cap) n xs) (hk : k ≤ n) (hc : n + 1 ≤ cap) (hv : vs.length = size) :
    ((w.setCells g ((k + 1) * size) (xs.drop (k * size))).setCells g (k * size) vs).ownsRow base e size (.slice (some ⟨g, 0, none⟩) (n + 1) cap) (n + 1) (xs.take (k * size) ++ vs ++ xs.drop (k * size)) := by
  obtain ⟨hl, hr⟩ := h
  rcases hr with ⟨hv, _⟩ | ⟨g', cap', cur, hvv, hb, hg, h1, h2, h3, h4⟩
  · injection hv with h1 _
    cases h1
  · injection hvv with e1 e2 e3
    injection e1 with e1
    injection e1 with e1
    subst e1
    subst e3
    have m1 : k * size ≤ n * size := Nat.mul_le_mul_right _ hk
    have m2 : (n + 1) * size ≤ cap * size := Nat.mul_le_mul_right _ hc
    rw [Nat.succ_mul] at m2
    rw [Nat.succ_mul]
    have hcl : cur.toList.length = cap * size := by simpa using h3
    have hd : (xs.drop (k * size)).length = n * size - k * size := by rw [List.length_drop, hl]
    have g1 := setCells_heap (i := k * size + size) (vs := xs.drop (k * size)) hg (by rw [hd]; omega)
    have g2 := setCells_heap (i := k * size) (vs := vs) g1 (by simp; omega)
    refine ⟨by simp [Nat.succ_mul]; omega, .inr ⟨g, cap, _, rfl, hb, g2, by omega, h2, by simp; omega, ?_⟩⟩
    have e0 : xs.take (k * size) = cur.toList.take (k * size) := by rw [← h4, List.take_take]; congr 1; omega
    rw [e0]
    simp only
    have ht : (cur.toList.take (k * size + size) ++ xs.drop (k * size) ++ cur.toList.drop (k * size + size + (xs.drop (k * size)).length)).take (k * size) = cur.toList.take (k * size) := by
      rw [List.append_assoc, List.take_append_of_le_length (by simp; omega), List.take_take]
      congr 1; omega
    have hdr : (cur.toList.take (k * size + size) ++ xs.drop (k * size) ++ cur.toList.drop (k * size + size + (xs.drop (k * size)).length)).drop (k * size + vs.length) = xs.drop (k * size) ++ cur.toList.drop (k * size + size + (xs.drop (k * size)).length) := by
      have hlen : (cur.toList.take (k * size + size)).length = k * size + vs.length := by simp; omega
      rw [List.append_assoc, ← hlen, List.drop_left]
    rw [ht, hdr, ← List.append_assoc]
    have hlen : (cur.toList.take (k * size) ++ vs ++ xs.drop (k * size)).length = (n + 1) * size := by simp [Nat.succ_mul]; omega
    rw [← hlen, List.take_left]
section
variable (w : World) {A : Option Addr} {n c k lo vb : Nat} {xs vs : List Value}
end
def insK (es : List E) (i : Int) : Nat := es.findIdx (fun e => !decide (e.id < i))
theorem insK_le (es : List E) (i : Int) : insK es i ≤ es.length := List.findIdx_le_length
theorem insK_step {es : List E} {i : Int} {k : Nat} {e : E} (he : es[k]? = some e) (h : k ≤ insK es i) : (¬ e.id < i → insK es i = k) ∧ (e.id < i → k + 1 ≤ insK es i) := by
  obtain ⟨hk, rfl⟩ := List.getElem?_eq_some_iff.1 he
  constructor
  · intro hn
    rcases Nat.lt_or_ge k (insK es i) with hlt | hge
    · have := List.not_of_lt_findIdx hlt
      simp at this
      omega
    · omega
  · intro hlt
    rcases Nat.lt_or_ge k (insK es i) with h1 | hge
    · omega
    · have he2 : insK es i = k := by omega
      have hx : es.findIdx (fun e => !decide (e.id < i)) < es.length := by show insK es i < _; omega
      have := List.findIdx_getElem (w := hx)
      have h3 : es.findIdx (fun e => !decide (e.id < i)) = k := he2
      simp only [h3] at this
      simp at this
      omega
def insOk (g : G) (e : E) : Bool := validG g && okE g.vs.length e && decide (¬ ixN g.es e.id < g.es.length) && decide (g.es.length ≠ 12)
def insG (g : G) (e : E) : G × Bool := if insOk g e then (⟨g.vs, g.es.take (insK g.es e.id) ++ [e] ++ g.es.drop (insK g.es e.id)⟩, true) else (g, false)
theorem insG_no {g : G} {e : E} (h : insOk g e = false) : insG g e = (g, false) := by simp [insG, h]
theorem insG_yes {g : G} {e : E} (h : insOk g e = true) : insG g e = (⟨g.vs, g.es.take (insK g.es e.id) ++ [e] ++ g.es.drop (insK g.es e.id)⟩, true) := by simp [insG, h]
theorem Kept.frz {w : World} {p : Addr} {v : Value} (h : w.cell? p = some v) (hf : w.frozen? p = false) (x : Kept w) : x.W.frozen? p = false := frozen_keep x.be h hf
theorem Kept.of {w w' : World} (x : Kept w) (h : Below x.W.heap.size x.W w') : ∃ y : Kept w, w' = y.W := ⟨⟨w', below_then x.be h⟩, rfl⟩
theorem Kept.fst {w w' : World} (h : Below w.heap.size w w') : ∃ y : Kept w, w' = y.W := ⟨⟨w', h⟩, rfl⟩
theorem Kept.size {w : World} {k : Nat} (h : k < w.heap.size) (x : Kept w) : k < x.W.heap.size := Nat.lt_of_lt_of_le h x.be.size
theorem Blk.kc {w : World} {g : Nat} {t : TypeId} {cs : Array Value} (h : Blk w g t cs) (i : Nat) {v : Value} (hv : cs[i]? = some v) (x : Kept w) : x.W.cell? ⟨g, i, none⟩ = some v := by
  rw [(h.below x.be h.lt).cell, hv]
theorem Blk.kf {w : World} {g : Nat} {t : TypeId} {cs : Array Value} (h : Blk w g t cs) (i : Nat) (x : Kept w) : x.W.frozen? ⟨g, i, none⟩ = false := (h.below x.be h.lt).frozen i
theorem wp_region_k2 {P : Program} {id : Nat} {Q : Exit → Act → World → Prop} {a : Act} {w : World} {y : Kept w} {l : List Oper} (hm : P.follows .mixedOrders = true) (hB : Region.lexB .any l.toArray = true)
    (h : wpQuiet P l.toArray (fun w' => ∃ x : Kept w, w' = x.W) (fun a' => ∀ w', (∃ x : Kept w, w' = x.W) → Q .normal a' w') l a) : (Code.region id l.toArray true).wp P Q a y.W :=
  wp_region_quiet (C := fun w' => ∃ x : Kept w, w' = x.W) hm hB ⟨⟨y.W.drew, below_then y.be (Below.refl _ _).drew⟩, rfl⟩ (by simpa using h)
theorem Blk.tch {w w' : World} {lo hi g : Nat} {t : TypeId} {cs : Array Value} (h : Blk w g t cs) (k : Tch lo hi w w') (hd : g < lo ∨ hi ≤ g) : Blk w' g t cs := (k.block g h.lt hd).trans h
theorem RIs.grown {w w' : World} {a b : Nat} {e : TypeId} {size n c : Nat} {A : Option Addr} {xs : List Value} {row : Option Nat} (h : RIs w a b e size A n c xs) (hg : w.grownBy w' row) (hne : ∀ q, (Value.slice A n c).ownBlock = some q → row ≠ some q) : RIs w' a b e size A n c xs :=
  ⟨⟨own_same h.own.row fun q hq => hg.block q (ownBlock_some h.own.row hq).2 fun e => hne q hq e.symm, h.own.top⟩, h.bd⟩
theorem ecs_ins (L : List E) (k : Nat) (e : E) : (ecs L).take (k * 4) ++ ec e ++ (ecs L).drop (k * 4) = ecs (L.take k ++ [e] ++ L.drop k) := by
  rw [ecs_take, ecs_drop, ecs_append, ecs_append]
  simp [ecs]
theorem ec_one (e : E) : ∀ u ∈ ec e, u.oneCell' = true := by
  intro u hu
  simp [ec] at hu
  rcases hu with rfl | rfl | rfl | rfl <;> rfl
end Go.Proofs.YtcnbgpelfkbmpaaDoor
