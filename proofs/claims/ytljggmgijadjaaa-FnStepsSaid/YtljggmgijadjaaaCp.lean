/- copyInts, copyGraph, l3Copy. -/
import Derived.Test.YtljggmgijadjaaaRd
namespace Go.Proofs.Ytljggmgijadjaaa
open Go.RowKit Go.ChangeShapes Go.WideShapes Go.ChangeAt Go.Deep
set_option linter.unusedVariables false
theorem own_made {w : World} {base : Nat} (e : TypeId) (size : Nat) (hb : base ≤ w.heap.size) : (w.alloc (.cells #[] e)).ownsRow base e size (.slice (some ⟨w.heap.size, 0, none⟩) 0 0) 0 [] :=
  World.ownsRow_made _ _ _ hb (by simp [maxLen]) (by simp)
set_option maxRecDepth 4000 in
set_option maxHeartbeats 400000 in
theorem copyInts_is (w : World) {A : Option Addr} {n c : Nat} {xs : List Int} (h : IRd w A n xs) :
    Calls Try.prog 38 #[.slice A n c] w fun e w' => ∃ A2 c2, e = .returned (.slice A2 n c2) ∧ RIs w' w.heap.size w'.heap.size 3 1 A2 n c2 (xs.map iv) ∧ Below w.heap.size w w' := by
  have hn := h.bd
  have hr := h.rd
  have q1 : Small (0 + n) := small_of (by omega)
  have hB0 : Below w.heap.size w (w.alloc (.cells #[] 3)) := (Below.refl _ _).alloc (Nat.le_refl _) _
  have hrd := reads_up hr hB0
  have ho := own_made (w := w) (base := w.heap.size) 3 1 (Nat.le_refl _)
  have hle : w.heap.size ≤ (w.alloc (.cells #[] 3)).heap.size := by simp
  clear h hr
  go_enter Try.func38, Try.ntmps38
  go_wp2_with (at_builtin; go_loud (refine ap_plain _ app_int (by decide) w.heap.size (.tmp 3) (.tmp 4) rfl rfl _ _ _ rfl ho _ _ _ _ _ rfl hrd (iv_one _) q1 hle ?_; intro v' w1 hown1 hg1 hat1; have hb1 := below_grown_own hB0 ho hg1 (Nat.le_refl _) hle; clear hg1 hat1))
  rw [Nat.zero_add, List.nil_append] at hown1
  obtain ⟨A2, c2, rfl, _⟩ := own_form hown1
  go_ret
  exact ⟨_, _, rfl, RIs.of hown1 hn, hb1⟩
theorem own_drew {w : World} {base : Nat} {e : TypeId} {size n : Nat} {v : Value} {xs : List Value} (h : w.ownsRow base e size v n xs) : w.drew.ownsRow base e size v n xs := h
section
variable {P : Program} (w : World)
/-- append to an empty slice without room: nothing that there was is written. -/
theorem run_append_fresh (base : Nat) (t ty e : TypeId) (i : TypeInfo) (z : Value) (size bytes : Nat) (ht : P.underlying t = some (.slice e)) (hi : P.info? e = some i) (hz : i.zero = some z)
    (hsize : i.size = size) (hby : i.bytes = bytes) (hzs : z.cells.size = size) (hsz : 0 < size)
    (D : Option Addr) (hown : w.ownsRow base e size (.slice D 0 0) 0 [])
    (B : Nat) (A : Option Addr) (m c : Nat) (news : List Value) (hr : Reads w B size A m news) (h1 : ∀ u ∈ news, u.oneCell' = true)
    (h63 : 0 + m ≤ maxLen) (hbytes : (0 + m) * bytes ≤ 140737488355328) (hbase : base ≤ w.heap.size) :
    ∃ v' w', (Builtin.append_ #[t, t] ty #[.slice D 0 0, .slice A m c]).run P w = .ok v' w' ∧ w'.ownsRow base e size v' m news ∧ Below w.heap.size w w' := by
  rcases Nat.eq_zero_or_pos m with h0 | h0
  · subst h0
    have hn : news = [] := List.eq_nil_of_length_eq_zero (by simpa using hr.1)
    subst hn
    refine ⟨.slice D 0 0, w, ?_, hown, Below.refl _ _⟩
    rcases A with _ | ad
    · exact run_append_of_nil w base t ty e i size ht hi _ 0 [] hown c
    · rcases hown.2 with ⟨hv, _⟩ | ⟨g, cap, cur, hv, _⟩
      · injection hv with hv
        subst hv
        simp [Builtin.append_, run_underlying ht, sizeOf, typeInfo, hi, Builtin.lenOf, Builtin.firstCells, loadCells, loadCellsFrom]
      · injection hv with hv
        subst hv
        simp [Builtin.append_, run_underlying ht, sizeOf, typeInfo, hi, Builtin.lenOf, Builtin.firstCells, loadCells, loadCellsFrom, storeCells]
  · obtain ⟨ad, rfl, hb, hcells⟩ := hr.2 h0
    obtain ⟨v', w', hrun, h2, h3, _, h5⟩ := run_append_own_at (P := P) w base t ty e i z size bytes ht hi hz hsize hby hzs hsz _ 0 [] hown ad m c news hr.1 hcells h1 h63 hbytes hbase
    rw [Nat.zero_add, List.nil_append] at h2
    refine ⟨v', w', hrun, h2, ?_⟩
    rcases hown.2 with ⟨hv, _⟩ | ⟨g, cap, cur, hv, hbg, hg, hnc, hcm, hcs, htake⟩
    · injection hv with hv
      subst hv
      exact ⟨h3.os, h3.tape, h3.output, h3.size, fun k hk => h3.block k hk (by simp [Value.ownBlock])⟩
    · injection hv with hv hc2 hc3
      subst hv
      subst hc3
      subst hsize
      subst hby
      have hrr := run_append_grow (P := P) w t ty e i z ht hi hz ⟨g, 0, none⟩ 0 0 [] (by simp) (by simp) ad m c news hr.1 hcells (by omega) (by unfold maxLen at h63; omega) (growslice_fits (by omega) hbytes)
      rw [hrun] at hrr
      injection hrr with _ hw
      rw [hw]
      exact ((Below.refl _ _).drew).alloc (Nat.le_refl _) _
end
section
variable {P : Program} (w : World)
theorem wp_append_fresh {t e : TypeId} {z : Value} {size bytes : Nat} (T : AppTy P t e z size bytes) (hb64 : bytes ≤ 64) (base : Nat) {o : Oper} {a : Act} {K : Act → World → Prop} {Q : Exit → Act → World → Prop} (s x : Operand)
    (ho : o.op = .call { callee := .builtin .append, args := #[s, x], argTypes := #[t, t] })
    (D : Option Addr) (hs : a.eval s = .slice D 0 0) (hown : w.ownsRow base e size (.slice D 0 0) 0 [])
    (B : Nat) (A : Option Addr) (m c : Nat) (news : List Value) (hx : a.eval x = .slice A m c) (hr : Reads w B size A m news) (h1 : ∀ u ∈ news, u.oneCell' = true)
    (hsm : Small (0 + m)) (hbase : base ≤ w.heap.size)
    (h : ∀ v' w', w'.ownsRow base e size v' m news → Below w.heap.size w w' → K (a.put o.dst v') w') : o.wp P a w K Q := by
  obtain ⟨i0, hi, hz0, hz1, hz2⟩ := info_parts T.inf
  unfold Small at hsm
  have hby : (0 + m) * bytes ≤ 140737488355328 := by
    have : (0 + m) * bytes ≤ 16777216 * 64 := Nat.mul_le_mul hsm hb64
    omega
  obtain ⟨v', w', hrun, h2, h3⟩ := run_append_fresh (P := P) w base t o.type e i0 z size bytes T.und hi hz0 hz1 hz2 T.cells T.pos D hown B A m c news hr h1 (by unfold maxLen; omega) hby hbase
  unfold Oper.wp execOp
  simp only [ho, resolve, invoke, builtin, Sem.run_bind, Sem.run_pure, Result.andThen_ok, List.map_toArray, List.map_cons, List.map_nil, hs, hx, hrun]
  exact h v' w' h2 h3
/-- append([]T{}, x...) in a plain region. -/
theorem fr_plain {t e : TypeId} {z : Value} {size bytes : Nat} (T : AppTy P t e z size bytes) (hb64 : bytes ≤ 64) (base : Nat) {ops : Array Oper} {rest : List Oper} {o : Oper} {a : Act} {Q : Exit → Act → World → Prop} (s x : Operand)
    (hgd : o.guard = none) (ho : o.op = .call { callee := .builtin .append, args := #[s, x], argTypes := #[t, t] })
    (D : Option Addr) (hs : a.eval s = .slice D 0 0) (hown : w.ownsRow base e size (.slice D 0 0) 0 [])
    (B : Nat) (A : Option Addr) (m c : Nat) (news : List Value) (hx : a.eval x = .slice A m c) (hr : Reads w B size A m news) (h1 : ∀ u ∈ news, u.oneCell' = true)
    (hsm : Small (0 + m)) (hbase : base ≤ w.heap.size)
    (h : ∀ v' w', w'.ownsRow base e size v' m news → Below w.heap.size w w' → wpList P ops Q rest (a.put o.dst v') w') : wpList P ops Q (o :: rest) a w :=
  wpList_plain hgd fun _ hK => wp_append_fresh w T hb64 base s x ho D hs hown B A m c news hx hr h1 hsm hbase fun v' w' h2 h3 => hK _ _ (h v' w' h2 h3)
/-- append([]T{}, x...) in a region that draws. -/
theorem fr_step {t e : TypeId} {z : Value} {size bytes : Nat} (T : AppTy P t e z size bytes) (hb64 : bytes ≤ 64) (base : Nat) {ops : Array Oper} {o : Oper} {a : Act} {K : Act → World → Prop} {Q : Exit → Act → World → Prop} {E : Prop} (s x : Operand)
    (hgd : o.guard = none) (ho : o.op = .call { callee := .builtin .append, args := #[s, x], argTypes := #[t, t] })
    (D : Option Addr) (hs : a.eval s = .slice D 0 0) (hown : w.ownsRow base e size (.slice D 0 0) 0 [])
    (B : Nat) (A : Option Addr) (m c : Nat) (news : List Value) (hx : a.eval x = .slice A m c) (hr : Reads w B size A m news) (h1 : ∀ u ∈ news, u.oneCell' = true)
    (hsm : Small (0 + m)) (hbase : base ≤ w.heap.size)
    (h : ∀ v' w', w'.ownsRow base e size v' m news → Below w.heap.size w w' → K (a.put o.dst v') w') :
    if Region.wanted o (yielded ops a.tmps) = true then Oper.wp P o a w K Q else E := by
  have hw : Region.wanted o (yielded ops a.tmps) = true := by simp [Region.wanted, hgd]
  rw [if_pos hw]
  exact wp_append_fresh w T hb64 base s x ho D hs hown B A m c news hx hr h1 hsm hbase h
end
theorem RIs.setB {w : World} {a b : Nat} {e : TypeId} {size n c : Nat} {A : Option Addr} {xs : List Value} (h : RIs w a b e size A n c xs) {p : Addr} (hp : p.block < a) (u : Value) : RIs (w.setCell p u) a b e size A n c xs :=
  ⟨⟨ownsRow_setCell_below h.own.row hp u, h.own.top⟩, h.bd⟩
end Go.Proofs.Ytljggmgijadjaaa
