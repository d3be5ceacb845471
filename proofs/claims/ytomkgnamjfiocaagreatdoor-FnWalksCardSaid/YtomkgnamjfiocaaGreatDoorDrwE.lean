/- An edge drawn: l3Some. (Printed in part by wip/drw_e.py.) -/
import Derived.Test.YtomkgnamjfiocaaGreatDoorDrawA
namespace Go.Proofs.YtomkgnamjfiocaaGreatDoor
open Go.RowKit Go.ChangeShapes Go.WideShapes Go.ChangeAt Go.Deep
set_option linter.unusedVariables false
/-- What a slot holds once its operation has come up. -/
inductive Rm
  | val (x : Value)
  | int
  | pos
  | edge
  | box
  | free
structure Rh where
  w : World
  cb : Nat
  xg : Nat
  xr : Nat
  cs : Array Value
  is : Nat
structure Rh.Ok (r : Rh) : Prop where
  hcb : r.cb < r.w.heap.size
  hxg : r.w.heap.size ≤ r.xg
  hxr : r.w.heap.size ≤ r.xr
abbrev zE : Array Value := #[.int .i64 0, .int .i64 0, .int .i64 0, .int .i64 0]
def Rm.ok (r : Rh) (x : Value) (L : Nat → Bool) (w' : World) : Rm → Prop
  | .val y => x = y
  | .int => ∃ z, x = .int .i64 z
  | .pos => ∃ z, 0 < z ∧ x = .int .i64 z
  | .edge => ∃ e : E, x = .agg #[.int .i64 e.id, .int .i64 e.fr, .int .i64 e.to, .int .i64 e.lb]
  | .box => ∃ g, x = .pointer (some ⟨g, 0, none⟩) ∧ r.w.heap.size ≤ g ∧ g ≠ r.xg ∧ g ≠ r.xr ∧ (L r.is = false → Blk w' g 90 zE) ∧ (L r.is = true → ∃ e : E, Blk w' g 90 #[.int .i64 e.id, .int .i64 e.fr, .int .i64 e.to, .int .i64 e.lb])
  | .free => True
structure Wh (r : Rh) (w' : World) : Prop where
  xg : Blk w' r.xg 27 r.cs
  xr : Blk w' r.xr 90 zE
  cr : Cur w' r.cb
  tt : Tch r.cb (r.cb + 1) r.w w'
structure JH (r : Rh) (role : List Rm) (slots : List Nat) (L : Nat → Bool) (f : Nat → Value) (w' : World) : Prop where
  v : ∀ k R, role[k]? = some R → L k = true → R.ok r (f (slots.getD k 0)) L w'
  w : Wh r w'
section
variable {r : Rh} {role : List Rm} {slots : List Nat} {i : Nat} {L : Nat → Bool} {f : Nat → Value} {w' w'' : World} {x : Value} {R : Rm}
theorem Rm.more (h : R.ok r x L w') (hi : i ≠ r.is) : R.ok r x (set1 L i) w' := by
  cases R <;> first | exact h | skip
  obtain ⟨g, h1, h2, h3, h4, h5, h6⟩ := h
  exact ⟨g, h1, h2, h3, h4, fun hl => h5 (set1_low hl), fun hl => h6 (by rwa [set1_ne (Ne.symm hi)] at hl)⟩
theorem Rm.tch (h : R.ok r x L w') (t : Tch r.cb (r.cb + 1) w' w'') (hcb : r.cb < r.w.heap.size) : R.ok r x L w'' := by
  cases R <;> first | exact h | skip
  obtain ⟨g, h1, h2, h3, h4, h5, h6⟩ := h
  exact ⟨g, h1, h2, h3, h4, fun hl => (h5 hl).tch t (by omega), fun hl => by obtain ⟨e, X⟩ := h6 hl; exact ⟨e, X.tch t (by omega)⟩⟩
abbrev Inj (slots : List Nat) : Prop := ∀ a, a < slots.length → ∀ b, b < slots.length → slots.getD a 0 = slots.getD b 0 → a = b
theorem JH.put (hn : Inj slots) (hl : role.length = slots.length) (hi : i < slots.length) {Ri : Rm} (hr : role[i]? = some Ri) (h : ∀ k R, k ≠ i → role[k]? = some R → L k = true → R.ok r (f (slots.getD k 0)) (set1 L i) w'') (hx : Ri.ok r x (set1 L i) w'') (hw : Wh r w'') : JH r role slots (set1 L i) (upd f (slots.getD i 0) x) w'' := by
  refine ⟨fun k R hR hk => ?_, hw⟩
  by_cases hki : k = i
  · subst hki
    obtain rfl : Ri = R := Option.some.inj (hr.symm.trans hR)
    rw [upd_same]
    exact hx
  · have hkl := (List.getElem?_eq_some_iff.1 hR).1
    rw [upd_ne f x (fun e => hki (hn k (by omega) i hi e))]
    exact h k R hki hR (by rwa [set1_ne hki] at hk)
theorem JH.pure (h : JH r role slots L f w') (hi : i ≠ r.is) (hn : Inj slots) (hl : role.length = slots.length) (hil : i < slots.length) {Ri : Rm} (hr : role[i]? = some Ri) (hx : Ri.ok r x (set1 L i) w') : JH r role slots (set1 L i) (upd f (slots.getD i 0) x) w' :=
  JH.put hn hl hil hr (fun k R _ hR hk => Rm.more (h.v k R hR hk) hi) hx h.w
theorem Wh.call (h : Wh r w') (k : r.Ok) (t : Tch r.cb (r.cb + 1) w' w'') (hC : Cur w'' r.cb) : Wh r w'' := by
  have h1 := k.hcb
  have h2 := k.hxg
  have h3 := k.hxr
  exact ⟨h.xg.tch t (by omega), h.xr.tch t (by omega), hC, h.tt.trans t⟩
theorem JH.call (h : JH r role slots L f w') (k : r.Ok) (hi : i ≠ r.is) (hn : Inj slots) (hl : role.length = slots.length) (hil : i < slots.length) {Ri : Rm} (hr : role[i]? = some Ri) (t : Tch r.cb (r.cb + 1) w' w'') (hC : Cur w'' r.cb) (hx : Ri.ok r x (set1 L i) w'') : JH r role slots (set1 L i) (upd f (slots.getD i 0) x) w'' :=
  JH.put hn hl hil hr (fun k' R _ hR hk => Rm.tch (Rm.more (h.v k' R hR hk) hi) t k.hcb) hx (h.w.call k t hC)
theorem JH.al (h : JH r role slots L f w') (k : r.Ok) (hi : i ≠ r.is) (hn : Inj slots) (hl : role.length = slots.length) (hil : i < slots.length) {Ri : Rm} (hr : role[i]? = some Ri) (o : Obj) (hx : Ri.ok r x (set1 L i) (w'.alloc o)) : JH r role slots (set1 L i) (upd f (slots.getD i 0) x) (w'.alloc o) :=
  h.call k hi hn hl hil hr (Tch.of_below ((Below.refl _ _).alloc (Nat.le_refl _) _)) (h.w.cr.below ((Below.refl _ _).alloc (Nat.le_refl _) _)) hx
theorem blk_set4 {w : World} {g : Nat} {t : TypeId} {a b c d : Value} (X : Blk w g t #[a, b, c, d]) (p q s u : Value) : Blk ((((w.setCell ⟨g, 0, none⟩ p).setCell ⟨g, 1, none⟩ q).setCell ⟨g, 2, none⟩ s).setCell ⟨g, 3, none⟩ u) g t #[p, q, s, u] :=
  (((X.set_ 0 p).set_ 1 q).set_ 2 s).set_ 3 u
theorem JH.sto (h : JH r role slots L f w') (k : r.Ok) (hL : L r.is = false) (hbox : ∀ j, role[j]? = some .box → slots.getD j 0 = 5) (hfree : role[r.is]? = some .free ∨ role[r.is]? = none) {g : Nat} (h5 : f 5 = .pointer (some ⟨g, 0, none⟩)) (hg : r.w.heap.size ≤ g) (hgx : g ≠ r.xg) (hgr : g ≠ r.xr) (X : Blk w' g 90 zE) (e : E) :
    JH r role slots (set1 L r.is) f ((((w'.setCell ⟨g, 0, none⟩ (.int .i64 e.id)).setCell ⟨g, 1, none⟩ (.int .i64 e.fr)).setCell ⟨g, 2, none⟩ (.int .i64 e.to)).setCell ⟨g, 3, none⟩ (.int .i64 e.lb)) := by
  have h1 := k.hcb
  refine ⟨fun j R hR hj => ?_, ?_, ?_, ?_, ?_⟩
  · by_cases hji : j = r.is
    · subst hji
      rcases hfree with hf | hf
      · obtain rfl : Rm.free = R := Option.some.inj (hf.symm.trans hR)
        trivial
      · rw [hf] at hR
        cases hR
    · rw [set1_ne hji] at hj
      have hv := h.v j R hR hj
      cases R <;> first | exact hv | skip
      obtain ⟨g2, h2, h3, h4, h6, h7, h8⟩ := hv
      rw [hbox j hR, h5] at h2
      obtain rfl : g = g2 := by simpa using h2
      refine ⟨g, ?_, h3, h4, h6, fun hl => ?_, fun _ => ⟨e, blk_set4 X _ _ _ _⟩⟩
      · rw [hbox j hR, h5]
      · simp [set1] at hl
  · exact (((h.w.xg.far_ (Ne.symm hgx) _ _).far_ (Ne.symm hgx) _ _).far_ (Ne.symm hgx) _ _).far_ (Ne.symm hgx) _ _
  · exact (((h.w.xr.far_ (Ne.symm hgr) _ _).far_ (Ne.symm hgr) _ _).far_ (Ne.symm hgr) _ _).far_ (Ne.symm hgr) _ _
  · refine h.w.cr.tch (((((Tch.refl g (g + 1) w').setCell (p := ⟨g, 0, none⟩) (Nat.le_refl _) (Nat.lt_succ_self _) _).setCell (p := ⟨g, 1, none⟩) (Nat.le_refl _) (Nat.lt_succ_self _) _).setCell (p := ⟨g, 2, none⟩) (Nat.le_refl _) (Nat.lt_succ_self _) _).setCell (p := ⟨g, 3, none⟩) (Nat.le_refl _) (Nat.lt_succ_self _) _) (by omega)
  · exact (((h.w.tt.past hg _ _).past hg _ _).past hg _ _).past hg _ _
end
end Go.Proofs.YtomkgnamjfiocaaGreatDoor
