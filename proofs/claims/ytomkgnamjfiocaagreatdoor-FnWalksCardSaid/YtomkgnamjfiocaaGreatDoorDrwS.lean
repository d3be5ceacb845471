/- A drawn region that draws an edge and appends it to a graph's row: what its slots hold and what the world is, kept by each operation. -/
import Derived.Test.YtomkgnamjfiocaaGreatDoorBaseB
namespace Go.Proofs.YtomkgnamjfiocaaGreatDoor
open Go.RowKit Go.ChangeShapes Go.WideShapes Go.ChangeAt Go.Deep
set_option linter.unusedVariables false
/-- What a slot holds once its operation has come up. -/
inductive Rl
  | val (x : Value)
  | int
  | lit (xs : List Int) (t : Nat)
  | edge
  | one (t : Nat)
  | app
  | free
structure Rg where
  w : World
  cb : Nat
  xg : Nat
  xr : Nat
  V : Value
  n1 : Nat
  E1 : Option Addr
  m1 : Nat
  f1 : Nat
  es : List E
  ia : Nat
  is : Nat
structure Rg.Ok (r : Rg) : Prop where
  hcb : r.cb < r.w.heap.size
  hxg : r.w.heap.size ≤ r.xg
  hxr : r.w.heap.size ≤ r.xr
  hne : r.xg ≠ r.xr
  hai : r.ia ≠ r.is
def Rl.ok (r : Rg) (x : Value) (L : Nat → Bool) (w' : World) : Rl → Prop
  | .val y => x = y
  | .int => ∃ z, x = .int .i64 z
  | .lit xs t => L t = false → ∃ g, x = .slice (some ⟨g, 0, none⟩) xs.length xs.length ∧ g ≠ r.cb ∧ ∀ (j : Nat) (y : Int), xs[j]? = some y → w'.cell? ⟨g, j, none⟩ = some (.int .i64 y)
  | .edge => ∃ e : E, x = .agg #[.int .i64 e.id, .int .i64 e.fr, .int .i64 e.to, .int .i64 e.lb]
  | .one t => L t = false → ∃ (g : Nat) (e : E), x = .slice (some ⟨g, 0, none⟩) 1 1 ∧ g ≠ r.cb ∧ g < w'.heap.size ∧ ∀ (j : Nat) (u : Value), (ecs [e])[j]? = some u → w'.cell? ⟨g, j, none⟩ = some u
  | .app => ∃ B d e, x = .slice B (r.m1 + 1) d ∧ w'.ownsRow r.w.heap.size 90 4 (.slice B (r.m1 + 1) d) (r.m1 + 1) (ecs (r.es ++ [e]))
  | .free => True
structure WW (r : Rg) (L : Nat → Bool) (w' : World) : Prop where
  g0 : L r.is = false → Blk w' r.xg 27 #[r.V, .slice r.E1 r.m1 r.f1]
  g1 : L r.is = true → ∃ B d e, Blk w' r.xg 27 #[r.V, .slice B (r.m1 + 1) d] ∧ w'.ownsRow r.w.heap.size 90 4 (.slice B (r.m1 + 1) d) (r.m1 + 1) (ecs (r.es ++ [e]))
  o0 : L r.ia = false → w'.ownsRow r.w.heap.size 90 4 (.slice r.E1 r.m1 r.f1) r.m1 (ecs r.es)
  xr : Blk w' r.xr 27 #[.slice none 0 0, .slice none 0 0]
  vr : ∃ vs : List Int, vs.length = r.n1 ∧ w'.ownsRow r.w.heap.size 3 1 r.V r.n1 (vs.map iv)
  cr : Cur w' r.cb
  tt : Tch r.cb (r.cb + 1) r.w w'
structure JJ (r : Rg) (role : Nat → Rl) (lo : Nat) (L : Nat → Bool) (f : Nat → Value) (w' : World) : Prop where
  v : ∀ k, L k = true → (role k).ok r (f (lo + k)) L w'
  w : WW r L w'
abbrev set1 (L : Nat → Bool) (i : Nat) : Nat → Bool := fun k => decide (k = i) || L k
theorem set1_more {L : Nat → Bool} {i k : Nat} (h : L k = true) : set1 L i k = true := by simp [set1, h]
theorem set1_ne {L : Nat → Bool} {i k : Nat} (h : k ≠ i) : set1 L i k = L k := by simp [set1, h]
theorem set1_low {L : Nat → Bool} {i k : Nat} (h : set1 L i k = false) : L k = false := by
  simp [set1] at h
  exact h.2
theorem row_reads {w : World} {g size m : Nat} {xs : List Value} (hl : xs.length = m * size) (hg : g < w.heap.size) (h : ∀ (j : Nat) (u : Value), xs[j]? = some u → w.cell? ⟨g, j, none⟩ = some u) : Reads w w.heap.size size (some ⟨g, 0, none⟩) m xs := by
  refine ⟨hl, fun _ => ⟨_, rfl, hg, fun j u hu => ?_⟩⟩
  have hadd : (⟨g, 0, none⟩ : Addr).add j = ⟨g, j, none⟩ := by unfold Addr.add; split <;> simp_all
  rw [hadd]
  exact h j u hu
def litT (t : Nat) : Rl → Bool
  | .lit _ s => s == t
  | _ => true
def oneT (t : Nat) : Rl → Bool
  | .one s => s == t
  | _ => true
def appT : Rl → Bool
  | .app => false
  | _ => true
theorem lit_of {roles : List Rl} {t j s : Nat} {xs : List Int} (h : roles.all (litT t) = true) (hj : roles.getD j .free = .lit xs s) : s = t := by
  rw [List.getD_eq_getElem?_getD] at hj
  cases hr : roles[j]? with
  | none => rw [hr] at hj; cases hj
  | some R =>
    rw [hr] at hj
    simp only [Option.getD_some] at hj
    subst hj
    simpa [litT] using List.all_eq_true.1 h _ (List.mem_of_getElem? hr)
theorem one_of {roles : List Rl} {t j s : Nat} (h : roles.all (oneT t) = true) (hj : roles.getD j .free = .one s) : s = t := by
  rw [List.getD_eq_getElem?_getD] at hj
  cases hr : roles[j]? with
  | none => rw [hr] at hj; cases hj
  | some R =>
    rw [hr] at hj
    simp only [Option.getD_some] at hj
    subst hj
    simpa [oneT] using List.all_eq_true.1 h _ (List.mem_of_getElem? hr)
theorem app_of {roles : List Rl} {k j : Nat} (h : ((List.range roles.length).all fun j => j == k || appT (roles.getD j .free)) = true) (hj : roles.getD j .free = .app) : j = k := by
  by_cases hlt : j < roles.length
  · have := List.all_eq_true.1 h j (List.mem_range.2 hlt)
    rw [hj] at this
    simpa [appT] using this
  · rw [List.getD_eq_getElem?_getD, List.getElem?_eq_none (by omega)] at hj
    cases hj
section
variable {r : Rg} {role : Nat → Rl} {lo i : Nat} {L : Nat → Bool} {f : Nat → Value} {w' w'' : World} {x : Value} {R : Rl}
theorem Rl.more (h : R.ok r x L w') : R.ok r x (set1 L i) w' := by
  cases R <;> first | exact h | exact fun hl => h (set1_low hl)
theorem Rl.tch (h : R.ok r x L w') (t : Tch r.cb (r.cb + 1) w' w'') (hcb : r.cb < r.w.heap.size) : R.ok r x L w'' := by
  cases R with
  | val y => exact h
  | int => exact h
  | lit xs k =>
    intro hl
    obtain ⟨g, h1, h2, h3⟩ := h hl
    exact ⟨g, h1, h2, fun j y hy => cell_tch t (h3 j y hy) (by dsimp only; omega)⟩
  | edge => exact h
  | one k =>
    intro hl
    obtain ⟨g, e, h1, h2, h3, h4⟩ := h hl
    exact ⟨g, e, h1, h2, Nat.lt_of_lt_of_le h3 t.size, fun j u hu => cell_tch t (h4 j u hu) (by dsimp only; omega)⟩
  | app =>
    obtain ⟨B, d, e, h1, h2⟩ := h
    exact ⟨B, d, e, h1, own_tch h2 t hcb⟩
  | free => trivial
theorem WW.same (h : WW r L w') (hi : i ≠ r.is) : WW r (set1 L i) w' :=
  ⟨fun hl => h.g0 (set1_low hl), fun hl => h.g1 (by rwa [set1_ne (Ne.symm hi)] at hl), fun hl => h.o0 (set1_low hl), h.xr, h.vr, h.cr, h.tt⟩
theorem WW.call (h : WW r L w') (k : r.Ok) (hi : i ≠ r.is) (t : Tch r.cb (r.cb + 1) w' w'') (hC : Cur w'' r.cb) : WW r (set1 L i) w'' := by
  have h1 := k.hcb
  have h2 := k.hxg
  have h3 := k.hxr
  refine ⟨fun hl => (h.g0 (set1_low hl)).tch t (by omega), fun hl => ?_, fun hl => own_tch (h.o0 (set1_low hl)) t h1, h.xr.tch t (by omega), (by obtain ⟨vs, a, b⟩ := h.vr; exact ⟨vs, a, own_tch b t h1⟩), hC, h.tt.trans t⟩
  obtain ⟨B, d, e, X, O⟩ := h.g1 (by rwa [set1_ne (Ne.symm hi)] at hl)
  exact ⟨B, d, e, X.tch t (by omega), own_tch O t h1⟩
theorem JJ.put (h : ∀ k, k ≠ i → L k = true → (role k).ok r (f (lo + k)) (set1 L i) w'') (hx : (role i).ok r x (set1 L i) w'') (hw : WW r (set1 L i) w'') : JJ r role lo (set1 L i) (upd f (lo + i) x) w'' := by
  refine ⟨fun k hk => ?_, hw⟩
  by_cases hki : k = i
  · subst hki
    rw [upd_same]
    exact hx
  · rw [upd_ne f x (by omega)]
    exact h k hki (by rwa [set1_ne hki] at hk)
theorem JJ.pure (h : JJ r role lo L f w') (hi : i ≠ r.is) (hx : (role i).ok r x (set1 L i) w') : JJ r role lo (set1 L i) (upd f (lo + i) x) w' :=
  JJ.put (fun k _ hk => Rl.more (h.v k hk)) hx (h.w.same hi)
theorem JJ.call (h : JJ r role lo L f w') (k : r.Ok) (hi : i ≠ r.is) (t : Tch r.cb (r.cb + 1) w' w'') (hC : Cur w'' r.cb) (hx : (role i).ok r x (set1 L i) w'') : JJ r role lo (set1 L i) (upd f (lo + i) x) w'' :=
  JJ.put (fun j _ hk => Rl.tch (Rl.more (h.v j hk)) t k.hcb) hx (h.w.call k hi t hC)
theorem JJ.al (h : JJ r role lo L f w') (k : r.Ok) (hi : i ≠ r.is) (o : Obj) (hx : (role i).ok r x (set1 L i) (w'.alloc o)) : JJ r role lo (set1 L i) (upd f (lo + i) x) (w'.alloc o) :=
  h.call k hi (Tch.of_below ((Below.refl _ _).alloc (Nat.le_refl _) _)) (h.w.cr.below ((Below.refl _ _).alloc (Nat.le_refl _) _)) hx
theorem blk_grown {w w' : World} {base g : Nat} {e t : TypeId} {size n : Nat} {v : Value} {xs : List Value} {cs : Array Value} (X : Blk w g t cs) (h : w.ownsRow base e size v n xs) (hg : w.grownBy w' v.ownBlock) (hne : e ≠ t) : Blk w' g t cs := by
  have hb := own_blk_ne h X hne
  have hl := X.lt
  unfold Blk at X ⊢
  rw [hg.block g hl (fun hh => hb hh.symm)]
  exact X
theorem JJ.app (h : JJ r role lo L f w') (k : r.Ok) (hL : L r.ia = false) (hord : L r.is = true → L r.ia = true) (hlit : ∀ j xs t, role j = .lit xs t → L j = true → L t = true) (hone : ∀ j t, role j = .one t → t = r.ia) (happ : ∀ j, role j = .app → j = r.ia) (hr : role r.ia = .app)
    {B : Option Addr} {d : Nat} {e : E} (hg : w'.grownBy w'' (Value.slice r.E1 r.m1 r.f1).ownBlock) (hown : w''.ownsRow r.w.heap.size 90 4 (.slice B (r.m1 + 1) d) (r.m1 + 1) (ecs (r.es ++ [e]))) :
    JJ r role lo (set1 L r.ia) (upd f (lo + r.ia) (.slice B (r.m1 + 1) d)) w'' := by
  have h1 := k.hcb
  have o0 := h.w.o0 hL
  refine JJ.put (fun j hj hk => ?_) ?_ ?_
  · have hv := h.v j hk
    cases hrj : role j with
    | val y => rw [hrj] at hv; exact hv
    | int => rw [hrj] at hv; exact hv
    | lit xs t =>
      intro hl
      rw [hlit j xs t hrj hk |> set1_more] at hl
      cases hl
    | edge => rw [hrj] at hv; exact hv
    | one t =>
      intro hl
      obtain rfl := hone j t hrj
      simp [set1] at hl
    | app => exact absurd (happ j hrj) hj
    | free => trivial
  · rw [hr]
    exact ⟨B, d, e, rfl, hown⟩
  · refine ⟨fun hl => blk_grown (h.w.g0 (set1_low hl)) o0 hg (by decide), fun hl => ?_, fun hl => ?_, blk_grown h.w.xr o0 hg (by decide), ?_, h.w.cr.grown o0 h1 hg, h.w.tt.grown2 hg (fun g hh => .inr (ownBlock_some o0 hh).1)⟩
    · rw [set1_ne (Ne.symm k.hai)] at hl
      rw [hord hl] at hL
      cases hL
    · simp [set1] at hl
    · obtain ⟨vs, a, b⟩ := h.w.vr
      exact ⟨vs, a, own_same b fun q hq => hg.block q (ownBlock_some b hq).2 fun hh => own_ne b o0 (by decide) q hq hh.symm⟩
theorem own_set {w : World} {base g i : Nat} {e t : TypeId} {size n : Nat} {v u : Value} {xs : List Value} {cs : Array Value} (h : w.ownsRow base e size v n xs) (X : Blk w g t cs) (hne : e ≠ t) : (w.setCell ⟨g, i, none⟩ u).ownsRow base e size v n xs :=
  own_same h fun q hq => Below.heap_setCell w ⟨g, i, none⟩ u q (by
    have := own_blk_ne h X hne
    rintro rfl
    exact this hq)
theorem JJ.sto (h : JJ r role lo L f w') (k : r.Ok) (hL : L r.is = false) (hia : L r.ia = true) (hlit : ∀ j xs t, role j = .lit xs t → L j = true → L t = true) (hone : ∀ j t, role j = .one t → t = r.ia) (hr : role r.is = .free)
    {B : Option Addr} {d : Nat} {e : E} (hown : w'.ownsRow r.w.heap.size 90 4 (.slice B (r.m1 + 1) d) (r.m1 + 1) (ecs (r.es ++ [e]))) :
    JJ r role lo (set1 L r.is) f (w'.setCell ⟨r.xg, 1, none⟩ (.slice B (r.m1 + 1) d)) := by
  have h1 := k.hcb
  have h2 := k.hxg
  have h3 := k.hxr
  have X := h.w.g0 hL
  refine ⟨fun j hj => ?_, fun hl => ?_, fun _ => ⟨B, d, e, X.set_ 1 _, own_set hown X (by decide)⟩, fun hl => ?_, h.w.xr.far_ (Ne.symm k.hne) _ _, (by obtain ⟨vs, a, b⟩ := h.w.vr; exact ⟨vs, a, own_set b X (by decide)⟩), h.w.cr.tch ((Tch.refl r.xg (r.xg + 1) w').setCell (p := ⟨r.xg, 1, none⟩) (Nat.le_refl _) (Nat.lt_succ_self _) _) (by omega), h.w.tt.past h2 _ _⟩
  · by_cases hji : j = r.is
    · subst hji
      rw [hr]
      trivial
    · rw [set1_ne hji] at hj
      have hv := h.v j hj
      cases hrj : role j with
      | val y => rw [hrj] at hv; exact hv
      | int => rw [hrj] at hv; exact hv
      | lit xs t =>
        intro hl
        rw [hlit j xs t hrj hj |> set1_more] at hl
        cases hl
      | edge => rw [hrj] at hv; exact hv
      | one t =>
        intro hl
        obtain rfl := hone j t hrj
        rw [set1_more hia] at hl
        cases hl
      | app =>
        rw [hrj] at hv
        obtain ⟨B2, d2, e2, h4, h5⟩ := hv
        exact ⟨B2, d2, e2, h4, own_set h5 X (by decide)⟩
      | free => trivial
  · simp [set1] at hl
  · rw [set1_more hia] at hl
    cases hl
theorem own_far {w : World} {base base' g : Nat} {e e' : TypeId} {size size' n n' c : Nat} {o : Nat} {v u : Value} {xs ys : List Value} (h : w.ownsRow base e size v n xs) (k : w.ownsRow base' e' size' (.slice (some ⟨g, o, none⟩) n' c) n' ys) (hne : e ≠ e') (i : Nat) : (w.setCell ⟨g, i, none⟩ u).ownsRow base e size v n xs :=
  own_same h fun q hq => Below.heap_setCell w ⟨g, i, none⟩ u q (by
    rintro rfl
    exact own_ne h k hne _ hq rfl)
/-- A store of an int into the row of the values. -/
theorem JJ.val (h : JJ r role lo L f w') (k : r.Ok) (hi : i ≠ r.is) (hr : role i = .free) (hlit : ∀ j xs t, role j = .lit xs t → L j = true → L t = true) (hone : ∀ j t, role j ≠ .one t) (happ : ∀ j, role j ≠ .app) (h0 : L r.is = false)
    {g c : Nat} (hV : r.V = .slice (some ⟨g, 0, none⟩) r.n1 c) (z : Int) : JJ r role lo (set1 L i) f (w'.setCell ⟨g, 0, none⟩ (.int .i64 z)) := by
  have h1 := k.hcb
  obtain ⟨vs, hl, hown⟩ := h.w.vr
  rw [hV] at hown
  have hg := (ownBlock_some hown (g := g) rfl).1
  have hxg : r.xg ≠ g := fun e => own_blk_ne hown (h.w.g0 h0) (by decide) (by rw [e]; rfl)
  have hxr : r.xr ≠ g := fun e => own_blk_ne hown h.w.xr (by decide) (by rw [e]; rfl)
  refine ⟨fun j hj => ?_, fun hl => (h.w.g0 h0).far_ hxg _ _, fun hl => ?_, fun hl => own_far (h.w.o0 (set1_low hl)) hown (by decide) _, h.w.xr.far_ hxr _ _, ⟨vs.set 0 z, by simpa using hl, ?_⟩, h.w.cr.tch ((Tch.refl g (g + 1) w').setCell (p := ⟨g, 0, none⟩) (Nat.le_refl _) (Nat.lt_succ_self _) _) (by omega), h.w.tt.past hg _ _⟩
  · by_cases hji : j = i
    · subst hji
      rw [hr]
      trivial
    · rw [set1_ne hji] at hj
      have hv := h.v j hj
      cases hrj : role j with
      | val y => rw [hrj] at hv; exact hv
      | int => rw [hrj] at hv; exact hv
      | lit xs t =>
        intro hl
        rw [hlit j xs t hrj hj |> set1_more] at hl
        cases hl
      | edge => rw [hrj] at hv; exact hv
      | one t => exact absurd hrj (hone j t)
      | app => exact absurd hrj (happ j)
      | free => trivial
  · rw [set1_ne (Ne.symm hi), h0] at hl
    cases hl
  · rw [hV, List.map_set]
    exact (hown.stored 0 _).1
end
end Go.Proofs.YtomkgnamjfiocaaGreatDoor
