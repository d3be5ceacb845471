/- A drawn region of a law or a draw: what each slot holds once its operation has come up; a graph's box that is laid in it. -/
import Derived.Test.YtomkgnamjfiocaaGreatDoorDrwE
import Derived.Test.YtomkgnamjfiocaaGreatDoorBaseA
namespace Go.Proofs.YtomkgnamjfiocaaGreatDoor
open Go.RowKit Go.ChangeShapes Go.WideShapes Go.ChangeAt Go.Deep
set_option linter.unusedVariables false
theorem own_past {w w' : World} {lo hi base size n : Nat} {e : TypeId} {v : Value} {xs : List Value} (o : w.ownsRow base e size v n xs) (t : Tch lo hi w w') (hb : hi ≤ base) : w'.ownsRow base e size v n xs :=
  own_same o fun q hq => t.block q (ownBlock_some o hq).2 (.inr (by have := (ownBlock_some o hq).1; omega))
/-- A graph whose rows were made behind base. -/
structure OwG (base : Nat) (w : World) (A : Option Addr) (n c : Nat) (B : Option Addr) (m d : Nat) (g : G) : Prop where
  ov : w.ownsRow base 3 1 (.slice A n c) n (g.vs.map iv)
  oe : w.ownsRow base 90 4 (.slice B m d) m (ecs g.es)
  bn : n ≤ 2000000
  bm : m ≤ 2000000
section
variable {base : Nat} {w w' : World} {A : Option Addr} {n c : Nat} {B : Option Addr} {m d : Nat} {g : G}
theorem OwG.grd (h : OwG base w A n c B m d g) : GRd w A n B m g :=
  ⟨⟨by simpa using h.ov.1, by have := h.oe.1; rw [ecs_len] at this; omega, Reads.of_own h.ov, Reads.of_own h.oe⟩, h.bn, h.bm⟩
theorem OwG.past {lo hi : Nat} (h : OwG base w A n c B m d g) (t : Tch lo hi w w') (hb : hi ≤ base) : OwG base w' A n c B m d g :=
  ⟨own_past h.ov t hb, own_past h.oe t hb, h.bn, h.bm⟩
theorem OwG.below (h : OwG base w A n c B m d g) (hb : Below w.heap.size w w') : OwG base w' A n c B m d g :=
  ⟨own_below h.ov hb (Nat.le_refl _), own_below h.oe hb (Nat.le_refl _), h.bn, h.bm⟩
theorem OwG.rebase {base' : Nat} (h : OwG base w A n c B m d g) (hb : base' ≤ base) : OwG base' w A n c B m d g :=
  ⟨own_rebase h.ov hb, own_rebase h.oe hb, h.bn, h.bm⟩
theorem OwG.set {b i : Nat} {cs : Array Value} {u : Value} (h : OwG base w A n c B m d g) (X : Blk w b 27 cs) : OwG base (w.setCell ⟨b, i, none⟩ u) A n c B m d g :=
  ⟨own_set h.ov X (by decide), own_set h.oe X (by decide), h.bn, h.bm⟩
theorem OwG.of {lo hi : Nat} (J : GIs w lo hi A n c B m d (g.vs.map iv) (ecs g.es)) (h : base ≤ lo) : OwG base w A n c B m d g :=
  ⟨own_rebase J.ou.own.row h, own_rebase J.ov.own.row h, J.ou.bd, J.ov.bd⟩
end
abbrev zG : Array Value := #[.slice none 0 0, .slice none 0 0]
/-- What a slot holds once its operation has come up. -/
inductive Rb
  | val (x : Value)
  | boo
  | tup (P : G → Bool → Prop)
  | gr (P : G → Prop)
  | ba (P : List Cg → Prop)
  | sl (P : List Cg → Prop)
  | ints (P : List Int → Prop)
  | box (P : G → Prop)
  | free
def Rb.ok (base is : Nat) (x : Value) (L : Nat → Bool) (w' : World) : Rb → Prop
  | .val y => x = y
  | .boo => ∃ b, x = .bool b
  | .tup P => ∃ A n c B m d g b, x = .tuple #[.agg #[.slice A n c, .slice B m d], .bool b] ∧ P g b ∧ OwG base w' A n c B m d g
  | .gr P => ∃ A n c B m d g, x = .agg #[.slice A n c, .slice B m d] ∧ P g ∧ OwG base w' A n c B m d g
  | .ba P => ∃ C k f l, x = .agg #[.slice C k f] ∧ P l ∧ k ≤ 2000000 ∧ w'.ownsRow base 92 5 (.slice C k f) k (cgcs l)
  | .sl P => ∃ C k f l, x = .slice C k f ∧ P l ∧ k ≤ 2000000 ∧ w'.ownsRow base 92 5 (.slice C k f) k (cgcs l)
  | .ints P => ∃ C k f l, x = .slice C k f ∧ P l ∧ k ≤ 2000000 ∧ w'.ownsRow base 3 1 (.slice C k f) k (l.map iv)
  | .box P => ∃ b, x = .pointer (some ⟨b, 0, none⟩) ∧ base ≤ b ∧ (L is = false → Blk w' b 27 zG) ∧ (L is = true → ∃ A n c B m d g, Blk w' b 27 #[.slice A n c, .slice B m d] ∧ P g ∧ OwG base w' A n c B m d g)
  | .free => True
structure JB (w0 : World) (lo hi : Nat) (C : World → Prop) (is : Nat) (role : List Rb) (slots : List Nat) (L : Nat → Bool) (f : Nat → Value) (w' : World) : Prop where
  t : Tch lo hi w0 w'
  c : C w'
  v : ∀ k R, role[k]? = some R → L k = true → R.ok w0.heap.size is (f (slots.getD k 0)) L w'
section
variable {base : Nat} {w0 : World} {lo hi : Nat} {C : World → Prop} {is : Nat} {role : List Rb} {slots : List Nat} {i : Nat} {L : Nat → Bool} {f : Nat → Value} {w' w'' : World} {x : Value} {R : Rb}
theorem Rb.more (h : R.ok base is x L w') (hi : i ≠ is) : R.ok base is x (set1 L i) w' := by
  cases R <;> first | exact h | skip
  obtain ⟨b, h1, h2, h3, h4⟩ := h
  exact ⟨b, h1, h2, fun hl => h3 (set1_low hl), fun hl => h4 (by rwa [set1_ne (Ne.symm hi)] at hl)⟩
theorem Rb.past (h : R.ok base is x L w') (t : Tch lo hi w' w'') (hb : hi ≤ base) : R.ok base is x L w'' := by
  cases R with
  | val y => exact h
  | boo => exact h
  | free => trivial
  | tup P =>
    obtain ⟨A, n, c, B, m, d, g, b, e, p, o⟩ := h
    exact ⟨A, n, c, B, m, d, g, b, e, p, o.past t hb⟩
  | gr P =>
    obtain ⟨A, n, c, B, m, d, g, e, p, o⟩ := h
    exact ⟨A, n, c, B, m, d, g, e, p, o.past t hb⟩
  | ba P =>
    obtain ⟨C, k, f, l, e, p, q, o⟩ := h
    exact ⟨C, k, f, l, e, p, q, own_past o t hb⟩
  | sl P =>
    obtain ⟨C, k, f, l, e, p, q, o⟩ := h
    exact ⟨C, k, f, l, e, p, q, own_past o t hb⟩
  | ints P =>
    obtain ⟨C, k, f, l, e, p, q, o⟩ := h
    exact ⟨C, k, f, l, e, p, q, own_past o t hb⟩
  | box P =>
    obtain ⟨b, h1, h2, h3, h4⟩ := h
    refine ⟨b, h1, h2, fun hl => (h3 hl).tch t (.inr (by omega)), fun hl => ?_⟩
    obtain ⟨A, n, c, B, m, d, g, X, p, o⟩ := h4 hl
    exact ⟨A, n, c, B, m, d, g, X.tch t (.inr (by omega)), p, o.past t hb⟩
theorem JB.put (h : JB w0 lo hi C is role slots L f w') (hhi : hi ≤ w0.heap.size) (hi' : i ≠ is) (hn : Inj slots) (hl : role.length = slots.length) (hil : i < slots.length) {Ri : Rb} (hr : role[i]? = some Ri) (t : Tch lo hi w' w'') (hc : C w'') (hx : Ri.ok w0.heap.size is x (set1 L i) w'') : JB w0 lo hi C is role slots (set1 L i) (upd f (slots.getD i 0) x) w'' := by
  refine ⟨h.t.trans t, hc, fun k R hR hk => ?_⟩
  by_cases hki : k = i
  · subst hki
    obtain rfl : Ri = R := Option.some.inj (hr.symm.trans hR)
    rw [upd_same]
    exact hx
  · have hkl := (List.getElem?_eq_some_iff.1 hR).1
    rw [upd_ne f x (fun e => hki (hn k (by omega) i hil e))]
    exact Rb.past (Rb.more (h.v k R hR (by rwa [set1_ne hki] at hk)) hi') t hhi
theorem JB.same (h : JB w0 lo hi C is role slots L f w') (hhi : hi ≤ w0.heap.size) (hi' : i ≠ is) (hn : Inj slots) (hl : role.length = slots.length) (hil : i < slots.length) {Ri : Rb} (hr : role[i]? = some Ri) (hx : Ri.ok w0.heap.size is x (set1 L i) w') : JB w0 lo hi C is role slots (set1 L i) (upd f (slots.getD i 0) x) w' :=
  h.put hhi hi' hn hl hil hr (Tch.refl _ _ _) h.c hx
theorem JB.sto {s : Nat} {P : G → Prop} {g : G} (h : JB w0 lo hi C is role slots L f w') (hL : L is = false) (hf : role[is]? = some .free) (hbox : ∀ (j : Nat) (P2 : G → Prop), role[j]? = some (Rb.box P2) → P2 = P ∧ slots.getD j 0 = s) {b : Nat} (h5 : f s = .pointer (some ⟨b, 0, none⟩)) (hb : w0.heap.size ≤ b) {A : Option Addr} {n c : Nat} {B : Option Addr} {m d : Nat} (X : Blk w' b 27 zG) (hP : P g) (o : OwG w0.heap.size w' A n c B m d g)
    (ht : ∀ i u w2, Tch lo hi w0 w2 → Tch lo hi w0 (w2.setCell ⟨b, i, none⟩ u)) (hc : C ((w'.setCell ⟨b, 0, none⟩ (.slice A n c)).setCell ⟨b, 1, none⟩ (.slice B m d))) :
    JB w0 lo hi C is role slots (set1 L is) f ((w'.setCell ⟨b, 0, none⟩ (.slice A n c)).setCell ⟨b, 1, none⟩ (.slice B m d)) := by
  have X1 := X.set_ 0 (.slice A n c)
  refine ⟨ht _ _ _ (ht _ _ _ h.t), hc, fun k R hR hk => ?_⟩
  have hset : set1 L is is = true := by simp [set1]
  by_cases hki : k = is
  · subst hki
    obtain rfl : Rb.free = R := Option.some.inj (hf.symm.trans hR)
    trivial
  · have hv := h.v k R hR (by rwa [set1_ne hki] at hk)
    cases R with
    | val y => exact hv
    | boo => exact hv
    | free => trivial
    | box P2 =>
      obtain ⟨rfl, hs⟩ := hbox k P2 hR
      rw [hs] at hv ⊢
      obtain ⟨b2, e1, e2, e3, e4⟩ := hv
      rw [h5] at e1
      obtain rfl : b = b2 := by simpa using e1
      refine ⟨b, h5, e2, fun hl => ?_, fun _ => ⟨A, n, c, B, m, d, g, X1.set_ 1 _, hP, (o.set X).set X1⟩⟩
      rw [hset] at hl
      cases hl
    | tup P =>
      obtain ⟨A, n, c, B, m, d, g, b, e, p, o⟩ := hv
      exact ⟨A, n, c, B, m, d, g, b, e, p, (o.set X).set X1⟩
    | gr P =>
      obtain ⟨A, n, c, B, m, d, g, e, p, o⟩ := hv
      exact ⟨A, n, c, B, m, d, g, e, p, (o.set X).set X1⟩
    | ba P =>
      obtain ⟨C, k, f, l, e, p, q, o⟩ := hv
      exact ⟨C, k, f, l, e, p, q, own_set (own_set o X (by decide)) X1 (by decide)⟩
    | sl P =>
      obtain ⟨C, k, f, l, e, p, q, o⟩ := hv
      exact ⟨C, k, f, l, e, p, q, own_set (own_set o X (by decide)) X1 (by decide)⟩
    | ints P =>
      obtain ⟨C, k, f, l, e, p, q, o⟩ := hv
      exact ⟨C, k, f, l, e, p, q, own_set (own_set o X (by decide)) X1 (by decide)⟩
end
theorem crd_of {w : World} {base : Nat} {A : Option Addr} {n c : Nat} {l : List Cg} (h : w.ownsRow base 92 5 (.slice A n c) n (cgcs l)) (hn : n ≤ 2000000) : CRd w A n l :=
  ⟨by have := h.1; rw [cgcs_len] at this; omega, Reads.of_own h, hn⟩
theorem ird_of {w : World} {base : Nat} {A : Option Addr} {n c : Nat} {l : List Int} (h : w.ownsRow base 3 1 (.slice A n c) n (l.map iv)) (hn : n ≤ 2000000) : IRd w A n l :=
  ⟨by simpa using h.1, Reads.of_own h, hn⟩
theorem wanted_on {o : Oper} {ops : Array Oper} {b : Act} {j d : Nat} {v : Bool} (hg : o.guard = some (j, v)) (hd : (ops[j]?).bind (·.dst) = some d) (h : b.tmps.getD d undef = .bool v) : Region.wanted o (yielded ops b.tmps) = true := by
  have h2 : b.tmps[d]? = some (.bool v) := by
    rw [Array.getD_eq_getD_getElem?] at h
    cases hx : b.tmps[d]? with
    | none => rw [hx] at h; cases h
    | some u => rw [hx] at h; exact congrArg some h
  simp [Region.wanted, hg, yielded, hd, h2]
/-- A guard that is not met. -/
theorem unwanted_of {o : Oper} {ops : Array Oper} {b : Act} {j d : Nat} {v : Bool} (hg : o.guard = some (j, v)) (hd : (ops[j]?).bind (·.dst) = some d) (h : b.tmps.getD d undef = .bool (!v)) : ¬ Region.wanted o (yielded ops b.tmps) = true := by
  have h2 : b.tmps[d]? = some (.bool (!v)) := by
    rw [Array.getD_eq_getD_getElem?] at h
    cases hx : b.tmps[d]? with
    | none => rw [hx] at h; cases h
    | some u => rw [hx] at h; exact congrArg some h
  cases v <;> simp [Region.wanted, hg, yielded, hd, h2]
end Go.Proofs.YtomkgnamjfiocaaGreatDoor
