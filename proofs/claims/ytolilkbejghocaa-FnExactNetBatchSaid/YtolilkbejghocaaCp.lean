/- copyInts, copyGraph, l3Copy. -/
import Derived.Test.YtolilkbejghocaaRd
namespace Go.Proofs.Ytolilkbejghocaa
open Go.RowKit Go.ChangeShapes Go.WideShapes Go.ChangeAt Go.Deep
set_option linter.unusedVariables false
theorem own_made {w : World} {base : Nat} (e : TypeId) (size : Nat) (hb : base ≤ w.heap.size) : (w.alloc (.cells #[] e)).ownsRow base e size (.slice (some ⟨w.heap.size, 0, none⟩) 0 0) 0 [] :=
  World.ownsRow_made _ _ _ hb (by simp [maxLen]) (by simp)
set_option maxRecDepth 4000 in
set_option maxHeartbeats 400000 in
theorem copyInts_is (w : World) {A : Option Addr} {n c : Nat} {xs : List Int} (h : IRd w A n xs) :
    Calls Try.prog 129 #[.slice A n c] w fun e w' => ∃ A2 c2, e = .returned (.slice A2 n c2) ∧ RIs w' w.heap.size w'.heap.size 3 1 A2 n c2 (xs.map iv) ∧ Below w.heap.size w w' := by
  have hn := h.bd
  have hr := h.rd
  have q1 : Small (0 + n) := small_of (by omega)
  have hB0 : Below w.heap.size w (w.alloc (.cells #[] 3)) := (Below.refl _ _).alloc (Nat.le_refl _) _
  have hrd := reads_up hr hB0
  have ho := own_made (w := w) (base := w.heap.size) 3 1 (Nat.le_refl _)
  have hle : w.heap.size ≤ (w.alloc (.cells #[] 3)).heap.size := by simp
  clear h hr
  go_enter Try.func129, Try.ntmps129
  go_wp2_with (at_builtin; go_loud (refine ap_plain _ app_int (by decide) w.heap.size (.tmp 3) (.tmp 4) rfl rfl _ _ _ rfl ho _ _ _ _ _ rfl hrd (iv_one _) q1 hle ?_; intro v' w1 hown1 hg1 hat1; have hb1 := below_grown_own hB0 ho hg1 (Nat.le_refl _) hle; clear hg1 hat1))
  rw [Nat.zero_add, List.nil_append] at hown1
  obtain ⟨A2, c2, rfl, _⟩ := own_form hown1
  go_ret
  exact ⟨_, _, rfl, RIs.of hown1 hn, hb1⟩
theorem own_drew {w : World} {base : Nat} {e : TypeId} {size n : Nat} {v : Value} {xs : List Value} (h : w.ownsRow base e size v n xs) : w.drew.ownsRow base e size v n xs := h
section
variable {P : Program} (w : World)
/-- append to an empty slice without room: nothing that there was is written. -/
theorem run_append_fresh (base : Nat) (t ty e : TypeId) (i : TypeInfo) (z : Value) (size bytes : Nat) (ht : P.underlying t = some (.slice e)) (hi : P.info? e = some i) (hz : i.zero = some z)
    (hsize : i.size = size) (hby : i.bytes = bytes) (hzs : z.cells.size = size) (hsz : 0 < size)
    (D : Option Addr) (hown : w.ownsRow base e size (.slice D 0 0) 0 [])
    (B : Nat) (A : Option Addr) (m c : Nat) (news : List Value) (hr : Reads w B size A m news) (h1 : ∀ u ∈ news, u.oneCell' = true)
    (h63 : 0 + m ≤ maxLen) (hbytes : (0 + m) * bytes ≤ 140737488355328) (hbase : base ≤ w.heap.size) :
    ∃ v' w', (Builtin.append_ #[t, t] ty #[.slice D 0 0, .slice A m c]).run P w = .ok v' w' ∧ w'.ownsRow base e size v' m news ∧ Below w.heap.size w w' := by
  rcases Nat.eq_zero_or_pos m with h0 | h0
  · subst h0
    have hn : news = [] := List.eq_nil_of_length_eq_zero (by simpa using hr.1)
    subst hn
    refine ⟨.slice D 0 0, w, ?_, hown, Below.refl _ _⟩
    rcases A with _ | ad
    · exact run_append_of_nil w base t ty e i size ht hi _ 0 [] hown c
    · rcases hown.2 with ⟨hv, _⟩ | ⟨g, cap, cur, hv, _⟩
      · injection hv with hv
        subst hv
        simp [Builtin.append_, run_underlying ht, sizeOf, typeInfo, hi, Builtin.lenOf, Builtin.firstCells, loadCells, loadCellsFrom]
      · injection hv with hv
        subst hv
        simp [Builtin.append_, run_underlying ht, sizeOf, typeInfo, hi, Builtin.lenOf, Builtin.firstCells, loadCells, loadCellsFrom, storeCells]
  · obtain ⟨ad, rfl, hb, hcells⟩ := hr.2 h0
    obtain ⟨v', w', hrun, h2, h3, _, h5⟩ := run_append_own_at (P := P) w base t ty e i z size bytes ht hi hz hsize hby hzs hsz _ 0 [] hown ad m c news hr.1 hcells h1 h63 hbytes hbase
    rw [Nat.zero_add, List.nil_append] at h2
    refine ⟨v', w', hrun, h2, ?_⟩
    rcases hown.2 with ⟨hv, _⟩ | ⟨g, cap, cur, hv, hbg, hg, hnc, hcm, hcs, htake⟩
    · injection hv with hv
      subst hv
      exact ⟨h3.os, h3.tape, h3.output, h3.size, fun k hk => h3.block k hk (by simp [Value.ownBlock])⟩
    · injection hv with hv hc2 hc3
      subst hv
      subst hc3
      subst hsize
      subst hby
      have hrr := run_append_grow (P := P) w t ty e i z ht hi hz ⟨g, 0, none⟩ 0 0 [] (by simp) (by simp) ad m c news hr.1 hcells (by omega) (by unfold maxLen at h63; omega) (growslice_fits (by omega) hbytes)
      rw [hrun] at hrr
      injection hrr with _ hw
      rw [hw]
      exact ((Below.refl _ _).drew).alloc (Nat.le_refl _) _
end
section
variable {P : Program} (w : World)
theorem wp_append_fresh {t e : TypeId} {z : Value} {size bytes : Nat} (T : AppTy P t e z size bytes) (hb64 : bytes ≤ 64) (base : Nat) {o : Oper} {a : Act} {K : Act → World → Prop} {Q : Exit → Act → World → Prop} (s x : Operand)
    (ho : o.op = .call { callee := .builtin .append, args := #[s, x], argTypes := #[t, t] })
    (D : Option Addr) (hs : a.eval s = .slice D 0 0) (hown : w.ownsRow base e size (.slice D 0 0) 0 [])
    (B : Nat) (A : Option Addr) (m c : Nat) (news : List Value) (hx : a.eval x = .slice A m c) (hr : Reads w B size A m news) (h1 : ∀ u ∈ news, u.oneCell' = true)
    (hsm : Small (0 + m)) (hbase : base ≤ w.heap.size)
    (h : ∀ v' w', w'.ownsRow base e size v' m news → Below w.heap.size w w' → K (a.put o.dst v') w') : o.wp P a w K Q := by
  obtain ⟨i0, hi, hz0, hz1, hz2⟩ := info_parts T.inf
  unfold Small at hsm
  have hby : (0 + m) * bytes ≤ 140737488355328 := by
    have : (0 + m) * bytes ≤ 16777216 * 64 := Nat.mul_le_mul hsm hb64
    omega
  obtain ⟨v', w', hrun, h2, h3⟩ := run_append_fresh (P := P) w base t o.type e i0 z size bytes T.und hi hz0 hz1 hz2 T.cells T.pos D hown B A m c news hr h1 (by unfold maxLen; omega) hby hbase
  unfold Oper.wp execOp
  simp only [ho, resolve, invoke, builtin, Sem.run_bind, Sem.run_pure, Result.andThen_ok, List.map_toArray, List.map_cons, List.map_nil, hs, hx, hrun]
  exact h v' w' h2 h3
/-- append([]T{}, x...) in a plain region. -/
theorem fr_plain {t e : TypeId} {z : Value} {size bytes : Nat} (T : AppTy P t e z size bytes) (hb64 : bytes ≤ 64) (base : Nat) {ops : Array Oper} {rest : List Oper} {o : Oper} {a : Act} {Q : Exit → Act → World → Prop} (s x : Operand)
    (hgd : o.guard = none) (ho : o.op = .call { callee := .builtin .append, args := #[s, x], argTypes := #[t, t] })
    (D : Option Addr) (hs : a.eval s = .slice D 0 0) (hown : w.ownsRow base e size (.slice D 0 0) 0 [])
    (B : Nat) (A : Option Addr) (m c : Nat) (news : List Value) (hx : a.eval x = .slice A m c) (hr : Reads w B size A m news) (h1 : ∀ u ∈ news, u.oneCell' = true)
    (hsm : Small (0 + m)) (hbase : base ≤ w.heap.size)
    (h : ∀ v' w', w'.ownsRow base e size v' m news → Below w.heap.size w w' → wpList P ops Q rest (a.put o.dst v') w') : wpList P ops Q (o :: rest) a w :=
  wpList_plain hgd fun _ hK => wp_append_fresh w T hb64 base s x ho D hs hown B A m c news hx hr h1 hsm hbase fun v' w' h2 h3 => hK _ _ (h v' w' h2 h3)
/-- append([]T{}, x...) in a region that draws. -/
theorem fr_step {t e : TypeId} {z : Value} {size bytes : Nat} (T : AppTy P t e z size bytes) (hb64 : bytes ≤ 64) (base : Nat) {ops : Array Oper} {o : Oper} {a : Act} {K : Act → World → Prop} {Q : Exit → Act → World → Prop} {E : Prop} (s x : Operand)
    (hgd : o.guard = none) (ho : o.op = .call { callee := .builtin .append, args := #[s, x], argTypes := #[t, t] })
    (D : Option Addr) (hs : a.eval s = .slice D 0 0) (hown : w.ownsRow base e size (.slice D 0 0) 0 [])
    (B : Nat) (A : Option Addr) (m c : Nat) (news : List Value) (hx : a.eval x = .slice A m c) (hr : Reads w B size A m news) (h1 : ∀ u ∈ news, u.oneCell' = true)
    (hsm : Small (0 + m)) (hbase : base ≤ w.heap.size)
    (h : ∀ v' w', w'.ownsRow base e size v' m news → Below w.heap.size w w' → K (a.put o.dst v') w') :
    if Region.wanted o (yielded ops a.tmps) = true then Oper.wp P o a w K Q else E := by
  have hw : Region.wanted o (yielded ops a.tmps) = true := by simp [Region.wanted, hgd]
  rw [if_pos hw]
  exact wp_append_fresh w T hb64 base s x ho D hs hown B A m c news hx hr h1 hsm hbase h
end
theorem RIs.setB {w : World} {a b : Nat} {e : TypeId} {size n c : Nat} {A : Option Addr} {xs : List Value} (h : RIs w a b e size A n c xs) {p : Addr} (hp : p.block < a) (u : Value) : RIs (w.setCell p u) a b e size A n c xs :=
  ⟨⟨ownsRow_setCell_below h.own.row hp u, h.own.top⟩, h.bd⟩
set_option maxRecDepth 4000 in
set_option maxHeartbeats 1000000 in
theorem copyGraph_is (w : World) {A B : Option Addr} {n c m d : Nat} {g : G} (h : GRd w A n B m g) :
    Calls Try.prog 92 #[.agg #[.slice A n c, .slice B m d]] w fun e w' => ∃ A2 c2 B2 d2, e = .returned (.agg #[.slice A2 n c2, .slice B2 m d2]) ∧ GIs w' w.heap.size w'.heap.size A2 n c2 B2 m d2 (g.vs.map iv) (ecs g.es) ∧ Below w.heap.size w w' := by
  have hn := h.bn
  have hm := h.bm
  have q1 : Small (0 + m) := small_of (by omega)
  go_enter Try.func92, Try.ntmps92
  go_wp2
  have hB0 : Below w.heap.size w ((w.alloc (.cells #[.slice A n c, .slice B m d] 53)).alloc (.cells #[.slice none 0 0, .slice none 0 0] 53)) := ((Below.refl _ _).alloc (Nat.le_refl _) _).alloc (by simp) _
  have kA : ((w.alloc (.cells #[.slice A n c, .slice B m d] 53)).alloc (.cells #[.slice none 0 0, .slice none 0 0] 53)).cell? ⟨w.heap.size, 0, none⟩ = some (.slice A n c) := by go_simp
  have kB : ((w.alloc (.cells #[.slice A n c, .slice B m d] 53)).alloc (.cells #[.slice none 0 0, .slice none 0 0] 53)).cell? ⟨w.heap.size, 1, none⟩ = some (.slice B m d) := by go_simp
  have r0 : ((w.alloc (.cells #[.slice A n c, .slice B m d] 53)).alloc (.cells #[.slice none 0 0, .slice none 0 0] 53)).cell? ⟨w.heap.size + 1, 0, none⟩ = some (.slice none 0 0) := by go_simp
  have r1 : ((w.alloc (.cells #[.slice A n c, .slice B m d] 53)).alloc (.cells #[.slice none 0 0, .slice none 0 0] 53)).cell? ⟨w.heap.size + 1, 1, none⟩ = some (.slice none 0 0) := by go_simp
  have f0 : ((w.alloc (.cells #[.slice A n c, .slice B m d] 53)).alloc (.cells #[.slice none 0 0, .slice none 0 0] 53)).frozen? ⟨w.heap.size + 1, 0, none⟩ = false := by go_simp
  have f1 : ((w.alloc (.cells #[.slice A n c, .slice B m d] 53)).alloc (.cells #[.slice none 0 0, .slice none 0 0] 53)).frozen? ⟨w.heap.size + 1, 1, none⟩ = false := by go_simp
  have hz0 : w.heap.size + 1 < ((w.alloc (.cells #[.slice A n c, .slice B m d] 53)).alloc (.cells #[.slice none 0 0, .slice none 0 0] 53)).heap.size := by simp
  generalize ((w.alloc (.cells #[.slice A n c, .slice B m d] 53)).alloc (.cells #[.slice none 0 0, .slice none 0 0] 53)) = w0 at *
  have hb0 : Below w0.heap.size w0 w0.drew := (Below.refl _ _).drew
  have hB1 := below_then hB0 hb0
  have hb2 : Below w0.heap.size w0 (w0.drew.alloc (.cells #[] 63)) := hb0.alloc (Nat.le_refl _) _
  have hB2 := below_then hB0 hb2
  have hI := h.ints
  have hE := h.edges
  clear h
  go_region_held3 (fun w' => w'.cell? ⟨w.heap.size, 0, none⟩ = some (.slice A n c) ∧ w'.cell? ⟨w.heap.size, 1, none⟩ = some (.slice B m d)) (first | exact ⟨kA, kB⟩ | exact ⟨cell_keep hb2 kA, cell_keep hb2 kB⟩ | exact ⟨kA3, kB3⟩ | exact ⟨cell_keep hb3a kA, cell_keep hb3a kB⟩ | exact ⟨cell_keep hb4 kA, cell_keep hb4 kB⟩ | (refine ⟨?_, ?_⟩ <;> (have kA4 := cell_keep hb4 kA; have kB4 := cell_keep hb4 kB; go_simp))) (first
    | (refine fr_step _ app_edge (by decide) w0.heap.size (.tmp 6) (.tmp 8) rfl rfl _ rfl oA _ _ _ _ _ rfl rA (ecs_one _) q1 sA ?_; intro v4 w4 O4 hb40; obtain ⟨B4, d4, rfl, _⟩ := own_form O4; have hb4 := below_then hb3a hb40; have r04 := cell_keep hb4 r0; have r14 := cell_keep hb4 r1; have f04 := frozen_keep hb4 r0 f0; have f14 := frozen_keep hb4 r1 f1; have I4 := (I3.below hb3s).below hb40)
    | (refine fr_step _ app_edge (by decide) w0.heap.size (.tmp 6) (.tmp 8) rfl rfl _ rfl oB _ _ _ _ _ rfl rB (ecs_one _) q1 sB ?_; intro v4 w4 O4 hb40; obtain ⟨B4, d4, rfl, _⟩ := own_form O4; have hb4 := below_then hb3 hb40; have r04 := cell_keep hb4 r0; have r14 := cell_keep hb4 r1; have f04 := frozen_keep hb4 r0 f0; have f14 := frozen_keep hb4 r1 f1; have I4 := I3.below hb40)
    | (go_simp; go_at_call 129; refine Calls.mono (copyInts_is _ (hI.up ?hb)) ?_; (case hb => first | exact hB2 | exact hB1); rintro e w3 ⟨A3, c3, rfl, I3, hb30⟩; have hb3 : Below w0.heap.size w0 w3 := (by first | exact below_then hb2 hb30 | exact below_then hb0 hb30); have hb3s : Below w3.heap.size w3 (w3.alloc (.cells #[] 63)) := (Below.refl _ _).alloc (Nat.le_refl _) _; have hb3a := below_then hb3 hb3s; have oA := own_made (w := w3) (base := w0.heap.size) 63 4 hb3.size; have rA := (hE.up (below_then hB0 hb3a)).rd; have rB := (hE.up (below_then hB0 hb3)).rd; have sA := hb3a.size; have sB := hb3.size; (try (have oB := own_below (own_made (w := w0.drew) (base := w0.heap.size) 63 4 (Nat.le_refl _)) hb30 (Nat.le_refl _))); have kA3 := cell_keep hb3 kA; have kB3 := cell_keep hb3 kB; dsimp only))
  all_goals
    have z4 := hb4.size
    have z3 := hb3.size
    have z43 : w3.heap.size ≤ w4.heap.size := by first | exact hb40.size | (have := hb40.size; simp at this; omega)
    have hB4 := below_then hB0 hb4
    have I5 := ((I4.setB (p := ⟨w.heap.size + 1, 0, none⟩) (by simp; omega) (.slice A3 n c3)).setB (p := ⟨w.heap.size + 1, 1, none⟩) (by simp; omega) (.slice B4 m d4)).wide (lo := w.heap.size) (hi := w4.heap.size) (by simp; omega) z43
    have O5 := (((RIs.of O4 hm).setB (p := ⟨w.heap.size + 1, 0, none⟩) (by simp; omega) (.slice A3 n c3)).setB (p := ⟨w.heap.size + 1, 1, none⟩) (by simp; omega) (.slice B4 m d4)).wide (lo := w.heap.size) (hi := w4.heap.size) (by omega) (Nat.le_refl _)
    clear hb40 I4 oA hB2 hb2 hI hE kA kB kA3 kB3 I3 z4 z3 z43
    go_wp2
    refine bodyPost_ret (v := .agg #[.slice A3 n c3, .slice B4 m d4]) ?_ rfl ?_
    · simp [results, Try.results92, go_sem]
      go_simp
    · refine ⟨_, _, _, _, rfl, ⟨by simpa using I5, by simpa using O5⟩, ?_⟩
      exact (hB4.setCell (by simp) _).setCell (by simp) _
set_option maxRecDepth 4000 in
set_option maxHeartbeats 1000000 in
theorem l3Copy_is (w : World) {A B : Option Addr} {n c m d : Nat} {g : G} (h : GRd w A n B m g) :
    Calls Try.prog 90 #[.agg #[.slice A n c, .slice B m d]] w fun e w' => ∃ A2 c2 B2 d2, e = .returned (.agg #[.slice A2 n c2, .slice B2 m d2]) ∧ GIs w' w.heap.size w'.heap.size A2 n c2 B2 m d2 (g.vs.map iv) (ecs g.es) ∧ Below w.heap.size w w' := by
  have hn := h.bn
  have hm := h.bm
  have q1 : Small (0 + m) := small_of (by omega)
  have q2 : Small (0 + n) := small_of (by omega)
  go_enter Try.func90, Try.ntmps90
  go_wp2
  have hB0 : Below w.heap.size w ((w.alloc (.cells #[.slice A n c, .slice B m d] 53)).alloc (.cells #[.slice none 0 0, .slice none 0 0] 53)) := ((Below.refl _ _).alloc (Nat.le_refl _) _).alloc (by simp) _
  have kA : ((w.alloc (.cells #[.slice A n c, .slice B m d] 53)).alloc (.cells #[.slice none 0 0, .slice none 0 0] 53)).cell? ⟨w.heap.size, 0, none⟩ = some (.slice A n c) := by go_simp
  have kB : ((w.alloc (.cells #[.slice A n c, .slice B m d] 53)).alloc (.cells #[.slice none 0 0, .slice none 0 0] 53)).cell? ⟨w.heap.size, 1, none⟩ = some (.slice B m d) := by go_simp
  have r0 : ((w.alloc (.cells #[.slice A n c, .slice B m d] 53)).alloc (.cells #[.slice none 0 0, .slice none 0 0] 53)).cell? ⟨w.heap.size + 1, 0, none⟩ = some (.slice none 0 0) := by go_simp
  have r1 : ((w.alloc (.cells #[.slice A n c, .slice B m d] 53)).alloc (.cells #[.slice none 0 0, .slice none 0 0] 53)).cell? ⟨w.heap.size + 1, 1, none⟩ = some (.slice none 0 0) := by go_simp
  have f0 : ((w.alloc (.cells #[.slice A n c, .slice B m d] 53)).alloc (.cells #[.slice none 0 0, .slice none 0 0] 53)).frozen? ⟨w.heap.size + 1, 0, none⟩ = false := by go_simp
  have f1 : ((w.alloc (.cells #[.slice A n c, .slice B m d] 53)).alloc (.cells #[.slice none 0 0, .slice none 0 0] 53)).frozen? ⟨w.heap.size + 1, 1, none⟩ = false := by go_simp
  have hz0 : w.heap.size + 1 < ((w.alloc (.cells #[.slice A n c, .slice B m d] 53)).alloc (.cells #[.slice none 0 0, .slice none 0 0] 53)).heap.size := by simp
  generalize ((w.alloc (.cells #[.slice A n c, .slice B m d] 53)).alloc (.cells #[.slice none 0 0, .slice none 0 0] 53)) = w0 at *
  have hI := h.ints
  have hE := h.edges
  clear h
  go_region_held3 (fun w' => w'.cell? ⟨w.heap.size, 0, none⟩ = some (.slice A n c) ∧ w'.cell? ⟨w.heap.size, 1, none⟩ = some (.slice B m d)) (first | exact ⟨kA, kB⟩ | exact ⟨kA3, kB3⟩ | exact ⟨kA4, kB4⟩ | exact ⟨cell_al _ (w := w0.drew) kA, cell_al _ (w := w0.drew) kB⟩ | exact ⟨cell_al _ (cell_al _ (w := w0.drew) kA), cell_al _ (cell_al _ (w := w0.drew) kB)⟩ | exact ⟨cell_al _ kA3, cell_al _ kB3⟩ | (refine ⟨?_, ?_⟩ <;> go_simp)) (first
    | (refine fr_step _ app_edge (by decide) w0.heap.size (.tmp 7) (.tmp 9) rfl rfl _ rfl ?_ _ _ _ _ _ rfl (hE.up (below_then hB0 ?_)).rd (ecs_one _) q1 ?_ ?_; (focus (first | exact own_made (w := w3) _ _ z3 | (refine own_below (w := ((w0.alloc (.cells #[] 3)).alloc (.cells #[] 63)).drew) ?_ hb30 (Nat.le_refl _); have hq := own_drew (own_made (w := w0.alloc (.cells #[] 3)) (base := w0.heap.size) 63 4 (by simp <;> omega)); simpa only [World.size_alloc] using hq) | exact own_below (own_drew ((own_made (w := w0) _ _ (Nat.le_refl _)).alloc _)) hb30 (Nat.le_refl _))); (focus (first | exact hb3 | exact hb3.alloc z3 _)); (focus (first | exact z3 | exact Nat.le_trans z3 (by simp <;> omega))); intro v4 w4 O4 hb40; obtain ⟨B4, d4, rfl, _⟩ := own_form O4; have hb4 : Below w0.heap.size w0 w4 := (by first | exact below_then hb3 hb40 | exact below_then (hb3.alloc z3 _) hb40); have I4 : RIs w4 w0.heap.size w3.heap.size 3 1 A3 n c3 (g.vs.map iv) := (by first | exact I3.below hb40 | exact (I3.below ((Below.refl _ _).alloc (Nat.le_refl _) _)).below hb40); have z43 : w3.heap.size ≤ w4.heap.size := (by first | exact hb40.size | (have := hb40.size; simp at this; omega)); have r04 := cell_keep hb4 r0; have r14 := cell_keep hb4 r1; have f04 := frozen_keep hb4 r0 f0; have f14 := frozen_keep hb4 r1 f1; have kA4 := cell_keep hb4 kA; have kB4 := cell_keep hb4 kB)
    | (refine fr_step _ app_int (by decide) w0.heap.size (.tmp 3) (.tmp 5) rfl rfl _ rfl ?_ _ _ _ _ _ rfl (hI.up (below_then hB0 ?_)).rd (iv_one _) q2 ?_ ?_; (focus (first | exact own_made (w := w0) _ _ (Nat.le_refl _) | exact (own_made (w := w0) _ _ (Nat.le_refl _)).alloc _ | (have hq := own_drew (own_made (w := w0.alloc (.cells #[] 63)) (base := w0.heap.size) 3 1 (by simp <;> omega)); simpa only [World.size_alloc] using hq))); (focus (repeat (first | with_reducible exact Below.refl _ _ | with_reducible refine Below.drew ?_ | with_reducible refine Below.alloc ?_ (by simp <;> omega) _))); (focus (simp <;> omega)); intro v3 w3 I30 hb30; obtain ⟨A3, c3, rfl, _⟩ := own_form I30; have I3 := RIs.of I30 hn; have hb3 : Below w0.heap.size w0 w3 := below_then (by repeat (first | with_reducible exact Below.refl _ _ | with_reducible refine Below.drew ?_ | with_reducible refine Below.alloc ?_ (by simp <;> omega) _)) hb30; have z3 := hb3.size; have kA3 := cell_keep hb3 kA; have kB3 := cell_keep hb3 kB; clear I30))
  all_goals
    have z4 := hb4.size
    have hB4 := below_then hB0 hb4
    have I5 := ((I4.setB (p := ⟨w.heap.size + 1, 0, none⟩) (by simp; omega) (.slice A3 n c3)).setB (p := ⟨w.heap.size + 1, 1, none⟩) (by simp; omega) (.slice B4 m d4)).wide (lo := w.heap.size) (hi := w4.heap.size) (by omega) z43
    have O5 := (((RIs.of O4 hm).setB (p := ⟨w.heap.size + 1, 0, none⟩) (by simp; omega) (.slice A3 n c3)).setB (p := ⟨w.heap.size + 1, 1, none⟩) (by simp; omega) (.slice B4 m d4)).wide (lo := w.heap.size) (hi := w4.heap.size) (by omega) (Nat.le_refl _)
    clear hb40 I4 hI hE kA kB kA3 kB3 I3 z4 z3 z43
    go_wp2
    refine bodyPost_ret (v := .agg #[.slice A3 n c3, .slice B4 m d4]) ?_ rfl ?_
    · simp [results, Try.results90, go_sem]
      go_simp
    · refine ⟨_, _, _, _, rfl, ⟨by simpa using I5, by simpa using O5⟩, ?_⟩
      exact (hB4.setCell (by simp) _).setCell (by simp) _
end Go.Proofs.Ytolilkbejghocaa
