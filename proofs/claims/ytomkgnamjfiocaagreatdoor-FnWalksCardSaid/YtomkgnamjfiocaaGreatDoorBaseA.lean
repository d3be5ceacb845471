/- Texts merged by program: Mem, Num, Ints, LetA, Let, Word, Edge, EdgeQ, Args, EdgeIx, Valid, Valid2, Mark, Own, Cmp, GMark, GMark2, El, Chg, Mk, Is, Args2, Rd, Cp, Kp. -/
import Derived.WalkKit
import Derived.ProofKit
import Derived.OpenShut
import Derived.ShutString
import Derived.ChangeOld
import Derived.Below
import Derived.Laws.OwnMore
import Derived.Laws.Rows
import Derived.Deep.AppendLies
import Derived.Deep.Draws
import Derived.Deep.OwnRows
import Derived.Maps.AppendAt
import Derived.RegionTactic
import Derived.Deep.RegionLaw
import Derived.Deep.RegionHeld3
import Derived.Deep.DeepFit
import Derived.Deep.RegionWith
import Derived.StillTailTactics
import Derived.OwnWalk
import Derived.Deep.QuietTactic
import Derived.BigQuiet
import Derived.Lib.Hide
import Derived.Deep.Slices
import Derived.Deep.Fields
import Derived.ChangeSame
import Derived.Lib.SmallJoins
import Derived.Laws.BitsAllLaws
import Derived.Laws.BitsLemmas
import Derived.Laws.MakeOwn
import Derived.Laws.Entries
import Derived.Test.YtomkgnamjfiocaaGreatDoorRows
namespace Go.Proofs.YtomkgnamjfiocaaGreatDoor
open Go.RowKit Go.ChangeShapes Go.WideShapes Go.ChangeAt Go.Deep
set_option linter.unusedVariables false

theorem block_of_add (a : Addr) (n : Nat) : (a.add n).block = a.block := by unfold Addr.add; split <;> rfl
theorem add_of_add (a : Addr) (i j : Nat) : (a.add i).add j = a.add (i + j) := by
  unfold Addr.add
  by_cases hi : i = 0 <;> by_cases hj : j = 0 <;> simp [hi, hj, Nat.add_assoc]

def Reads (w : World) (B size : Nat) (A : Option Addr) (n : Nat) (xs : List Value) : Prop :=
  xs.length = n * size ∧ (0 < n → ∃ ad, A = some ad ∧ ad.block < B ∧ ∀ j u, xs[j]? = some u → w.cell? (ad.add j) = some u)

section
variable {w w' : World} {B B' size n : Nat} {A : Option Addr} {xs : List Value}
theorem Reads.none_ : Reads w B size A 0 [] := ⟨by simp, fun h => absurd h (by omega)⟩
theorem Reads.at_ {k : Nat} (h : Reads w B 1 A n xs) (hk : k < n) : ∃ ad u, A = some ad ∧ ad.block < B ∧ xs[k]? = some u ∧ w.cell? (ad.add k) = some u := by
  obtain ⟨ad, e, hb, hc⟩ := h.2 (by omega)
  have hl : k < xs.length := by have := h.1; omega
  exact ⟨ad, xs[k], e, hb, List.getElem?_eq_getElem hl, hc k _ (List.getElem?_eq_getElem hl)⟩
theorem Reads.keep (h : Reads w B size A n xs) (hk : ∀ p : Addr, p.block < B → w'.cell? p = w.cell? p) : Reads w' B size A n xs :=
  ⟨h.1, fun hn => by
    obtain ⟨ad, e, hb, hc⟩ := h.2 hn
    exact ⟨ad, e, hb, fun j u hu => (hk _ (by rw [block_of_add]; exact hb)).trans (hc j u hu)⟩⟩
theorem Reads.more (h : Reads w B size A n xs) (hB : B ≤ B') : Reads w B' size A n xs :=
  ⟨h.1, fun hn => by
    obtain ⟨ad, e, hb, hc⟩ := h.2 hn
    exact ⟨ad, e, by omega, hc⟩⟩
theorem Reads.below (h : Reads w B size A n xs) (hb : Below B w w') : Reads w' B size A n xs := h.keep fun _ hp => hb.cell hp
theorem Reads.drew (h : Reads w B size A n xs) : Reads w.drew B size A n xs := h
theorem Reads.drewN (h : Reads w B size A n xs) (k : Nat) : Reads (w.drewN k) B size A n xs := h
theorem Reads.alloc (h : Reads w B size A n xs) (hB : B ≤ w.heap.size) (o : Obj) : Reads (w.alloc o) B size A n xs := h.keep fun p hp => World.cell?_alloc_lt w o p (by omega)
theorem Reads.setCell (h : Reads w B size A n xs) {p : Addr} (hB : B ≤ p.block) (u : Value) : Reads (w.setCell p u) B size A n xs :=
  h.keep fun q hq => World.cell?_setCell_other w p q u (fun e => by subst e; omega)
theorem Reads.grown (h : Reads w B size A n xs) {row : Option Nat} (hg : w.grownBy w' row) (hB : B ≤ w.heap.size) (hr : ∀ g, row = some g → B ≤ g) : Reads w' B size A n xs :=
  h.keep fun p hp => World.cell?_of_block (hg.block p.block (by omega) (fun e => by have := hr _ e.symm; omega))
theorem Reads.cut (h : Reads w B size A n xs) {k cap : Nat} (hk : k ≤ n) (hc : n ≤ cap) :
    Reads w B size (if cap = k then A else A.map (·.add (k * size))) (n - k) (xs.drop (k * size)) := by
  refine ⟨by rw [List.length_drop, h.1, Nat.sub_mul], fun hn => ?_⟩
  obtain ⟨ad, rfl, hb, hcell⟩ := h.2 (by omega)
  rw [if_neg (by omega)]
  refine ⟨ad.add (k * size), rfl, by rw [block_of_add]; exact hb, fun j u hu => ?_⟩
  rw [add_of_add]
  exact hcell _ u (by rw [← hu, List.getElem?_drop])
theorem Reads.of_own {base : Nat} {e : TypeId} {c : Nat} (h : w.ownsRow base e size (.slice A n c) n xs) : Reads w w.heap.size size A n xs := by
  refine ⟨h.1, fun hn => ?_⟩
  obtain ⟨g, cap, hv, _, hlt⟩ := h.form hn
  have hA : A = some ⟨g, 0, none⟩ := by injection hv
  subst hA
  exact ⟨_, rfl, hlt, h.cells (g := g) rfl⟩
end

def Blk (w : World) (g : Nat) (t : TypeId) (cs : Array Value) : Prop := w.heap[g]? = some (.cells cs t (0, 0))

section
variable {w w' : World} {g : Nat} {t : TypeId} {cs : Array Value}
theorem Blk.lt (h : Blk w g t cs) : g < w.heap.size := by
  rcases Nat.lt_or_ge g w.heap.size with hlt | hge
  · exact hlt
  · unfold Blk at h; rw [Array.getElem?_eq_none hge] at h; cases h
theorem Blk.cell (h : Blk w g t cs) (i : Nat) : w.cell? ⟨g, i, none⟩ = cs[i]? := cell_of_row w g i cs t (0, 0) h
theorem Blk.frozen (h : Blk w g t cs) (i : Nat) : w.frozen? ⟨g, i, none⟩ = false := by
  unfold Blk at h
  simp [World.frozen?, h]
theorem Blk.new (w : World) (t : TypeId) (cs : Array Value) : Blk (w.alloc (.cells cs t)) w.heap.size t cs := heap_alloc_new w _
theorem Blk.drew (h : Blk w g t cs) : Blk w.drew g t cs := h
theorem Blk.drewN (h : Blk w g t cs) (n : Nat) : Blk (w.drewN n) g t cs := h
theorem Blk.alloc (h : Blk w g t cs) (o : Obj) : Blk (w.alloc o) g t cs := (Below.heap_alloc w o g h.lt).trans h
theorem Blk.set_ (h : Blk w g t cs) (i : Nat) (u : Value) : Blk (w.setCell ⟨g, i, none⟩ u) g t (cs.setIfInBounds i u) := by
  unfold Blk at h ⊢
  simp [World.setCell, Array.getElem?_modify, h]
theorem Blk.far (h : Blk w g t cs) {p : Addr} (hp : g ≠ p.block) (u : Value) : Blk (w.setCell p u) g t cs := (Below.heap_setCell w p u g hp).trans h
theorem Blk.below {B : Nat} (h : Blk w g t cs) (hb : Below B w w') (hg : g < B) : Blk w' g t cs := (hb.block g hg).trans h
theorem Blk.grown {row : Option Nat} (h : Blk w g t cs) (hb : w.grownBy w' row) (hg : some g ≠ row) : Blk w' g t cs := (hb.block g h.lt hg).trans h
theorem Blk.ne_ {g' : Nat} {t' : TypeId} {cs' : Array Value} (h : Blk w g t cs) (h' : Blk w g' t' cs') (hne : t ≠ t') : g ≠ g' := by
  rintro rfl
  unfold Blk at h h'
  rw [h] at h'
  injection h' with h'
  injection h' with _ ht
  exact hne ht
theorem own_blk_ne {base : Nat} {e : TypeId} {size n : Nat} {v : Value} {xs : List Value} (h : w.ownsRow base e size v n xs) (hg : Blk w g t cs) (hne : e ≠ t) : v.ownBlock ≠ some g := by
  rcases h.2 with ⟨rfl, _⟩ | ⟨g', cap, cur, rfl, _, hh, _⟩
  · simp [Value.ownBlock]
  · intro he
    have : g' = g := by simpa [Value.ownBlock] using he
    subst this
    exact Blk.ne_ (t := e) hh hg hne rfl
end

section
variable {P : Program} (w : World)

theorem run_append_of_nil (base : Nat) (t ty e : TypeId) (i : TypeInfo) (size : Nat) (ht : P.underlying t = some (.slice e)) (hi : P.info? e = some i)
    (v : Value) (n : Nat) (xs : List Value) (hown : w.ownsRow base e size v n xs) (c : Nat) : (Builtin.append_ #[t, t] ty #[v, .slice none 0 c]).run P w = .ok v w := by
  rcases hown.2 with ⟨rfl, rfl⟩ | ⟨g, cap, cur, rfl, _, _, hnc, _⟩
  · simp [Builtin.append_, run_underlying ht, sizeOf, typeInfo, hi, Builtin.lenOf, Builtin.firstCells]
  · simp [Builtin.append_, run_underlying ht, sizeOf, typeInfo, hi, Builtin.lenOf, Builtin.firstCells, hnc, storeCells]

theorem run_append_any (base : Nat) (t ty e : TypeId) (i : TypeInfo) (z : Value) (size bytes : Nat) (ht : P.underlying t = some (.slice e)) (hi : P.info? e = some i) (hz : i.zero = some z)
    (hsize : i.size = size) (hby : i.bytes = bytes) (hzs : z.cells.size = size) (hsz : 0 < size)
    (v : Value) (n : Nat) (xs : List Value) (hown : w.ownsRow base e size v n xs)
    (B : Nat) (A : Option Addr) (m c : Nat) (news : List Value) (hr : Reads w B size A m news) (h1 : ∀ u ∈ news, u.oneCell' = true)
    (h63 : n + m ≤ maxLen) (hbytes : (n + m) * bytes ≤ 140737488355328) (hbase : base ≤ w.heap.size) :
    ∃ v' w', (Builtin.append_ #[t, t] ty #[v, .slice A m c]).run P w = .ok v' w' ∧ w'.ownsRow base e size v' (n + m) (xs ++ news) ∧ w.grownBy w' v.ownBlock ∧
      (v'.ownBlock = v.ownBlock ∨ v'.ownBlock = some w.heap.size) := by
  rcases A with _ | ad
  · have hm : m = 0 := by
      rcases Nat.eq_zero_or_pos m with h0 | h0
      · exact h0
      · obtain ⟨ad, h, _⟩ := hr.2 h0
        cases h
    subst hm
    have hn : news = [] := List.eq_nil_of_length_eq_zero (by simpa using hr.1)
    subst hn
    exact ⟨v, w, run_append_of_nil w base t ty e i size ht hi v n xs hown c, by simpa using hown, World.grownBy.refl w _, .inl rfl⟩
  · have hcells : ∀ j u, news[j]? = some u → w.cell? (ad.add j) = some u := by
      intro j u hu
      rcases Nat.eq_zero_or_pos m with h0 | h0
      · subst h0
        have hn : news = [] := List.eq_nil_of_length_eq_zero (by simpa using hr.1)
        subst hn
        simp at hu
      · obtain ⟨ad', h, _, hc⟩ := hr.2 h0
        injection h with h
        subst h
        exact hc j u hu
    obtain ⟨v', w', hrun, h2, h3, _, h5⟩ := run_append_own_at (P := P) w base t ty e i z size bytes ht hi hz hsize hby hzs hsz v n xs hown ad m c news hr.1 hcells h1 h63 hbytes hbase
    exact ⟨v', w', hrun, h2, h3, h5⟩

theorem wp_append_any {o : Oper} {a : Act} {K : Act → World → Prop} {Q : Exit → Act → World → Prop} (s x : Operand) (t : TypeId)
    (ho : o.op = .call { callee := .builtin .append, args := #[s, x], argTypes := #[t, t] })
    (base : Nat) (e : TypeId) (i : TypeInfo) (z : Value) (size bytes : Nat) (ht : P.underlying t = some (.slice e)) (hi : P.info? e = some i) (hz : i.zero = some z)
    (hsize : i.size = size) (hby : i.bytes = bytes) (hzs : z.cells.size = size) (hsz : 0 < size)
    (v : Value) (n : Nat) (xs : List Value) (hs : a.eval s = v) (hown : w.ownsRow base e size v n xs)
    (B : Nat) (A : Option Addr) (m c : Nat) (news : List Value) (hx : a.eval x = .slice A m c) (hr : Reads w B size A m news) (h1 : ∀ u ∈ news, u.oneCell' = true)
    (h63 : n + m ≤ maxLen) (hbytes : (n + m) * bytes ≤ 140737488355328) (hbase : base ≤ w.heap.size)
    (h : ∀ v' w', w'.ownsRow base e size v' (n + m) (xs ++ news) → w.grownBy w' v.ownBlock → (v'.ownBlock = v.ownBlock ∨ v'.ownBlock = some w.heap.size) → K (a.put o.dst v') w') : o.wp P a w K Q := by
  obtain ⟨v', w', hrun, h2, h3, h4⟩ := run_append_any (P := P) w base t o.type e i z size bytes ht hi hz hsize hby hzs hsz v n xs hown B A m c news hr h1 h63 hbytes hbase
  unfold Oper.wp execOp
  simp only [ho, resolve, invoke, builtin, Sem.run_bind, Sem.run_pure, Result.andThen_ok, List.map_toArray, List.map_cons, List.map_nil, hs, hx, hrun]
  exact h v' w' h2 h3 h4

theorem wpList_append_any {ops : Array Oper} {rest : List Oper} {o : Oper} {a : Act} {Q : Exit → Act → World → Prop} (hgd : o.guard = none) (s x : Operand) (t : TypeId)
    (ho : o.op = .call { callee := .builtin .append, args := #[s, x], argTypes := #[t, t] })
    (base : Nat) (e : TypeId) (i : TypeInfo) (z : Value) (size bytes : Nat) (ht : P.underlying t = some (.slice e)) (hi : P.info? e = some i) (hz : i.zero = some z)
    (hsize : i.size = size) (hby : i.bytes = bytes) (hzs : z.cells.size = size) (hsz : 0 < size)
    (v : Value) (n : Nat) (xs : List Value) (hs : a.eval s = v) (hown : w.ownsRow base e size v n xs)
    (B : Nat) (A : Option Addr) (m c : Nat) (news : List Value) (hx : a.eval x = .slice A m c) (hr : Reads w B size A m news) (h1 : ∀ u ∈ news, u.oneCell' = true)
    (h63 : n + m ≤ maxLen) (hbytes : (n + m) * bytes ≤ 140737488355328) (hbase : base ≤ w.heap.size)
    (h : ∀ v' w', w'.ownsRow base e size v' (n + m) (xs ++ news) → w.grownBy w' v.ownBlock → (v'.ownBlock = v.ownBlock ∨ v'.ownBlock = some w.heap.size) → wpList P ops Q rest (a.put o.dst v') w') : wpList P ops Q (o :: rest) a w :=
  wpList_plain hgd fun _ hK => wp_append_any w s x t ho base e i z size bytes ht hi hz hsize hby hzs hsz v n xs hs hown B A m c news hx hr h1 h63 hbytes hbase fun v' w' h2 h3 h4 => hK _ _ (h v' w' h2 h3 h4)

theorem step_append_any {ops : Array Oper} {o : Oper} {a : Act} {K : Act → World → Prop} {Q : Exit → Act → World → Prop} {E : Prop} (hgd : o.guard = none) (s x : Operand) (t : TypeId)
    (ho : o.op = .call { callee := .builtin .append, args := #[s, x], argTypes := #[t, t] })
    (base : Nat) (e : TypeId) (i : TypeInfo) (z : Value) (size bytes : Nat) (ht : P.underlying t = some (.slice e)) (hi : P.info? e = some i) (hz : i.zero = some z)
    (hsize : i.size = size) (hby : i.bytes = bytes) (hzs : z.cells.size = size) (hsz : 0 < size)
    (v : Value) (n : Nat) (xs : List Value) (hs : a.eval s = v) (hown : w.ownsRow base e size v n xs)
    (B : Nat) (A : Option Addr) (m c : Nat) (news : List Value) (hx : a.eval x = .slice A m c) (hr : Reads w B size A m news) (h1 : ∀ u ∈ news, u.oneCell' = true)
    (h63 : n + m ≤ maxLen) (hbytes : (n + m) * bytes ≤ 140737488355328) (hbase : base ≤ w.heap.size)
    (h : ∀ v' w', w'.ownsRow base e size v' (n + m) (xs ++ news) → w.grownBy w' v.ownBlock → (v'.ownBlock = v.ownBlock ∨ v'.ownBlock = some w.heap.size) → K (a.put o.dst v') w') :
    if Region.wanted o (yielded ops a.tmps) = true then Oper.wp P o a w K Q else E := by
  have hw : Region.wanted o (yielded ops a.tmps) = true := by simp [Region.wanted, hgd]
  rw [if_pos hw]
  exact wp_append_any w s x t ho base e i z size bytes ht hi hz hsize hby hzs hsz v n xs hs hown B A m c news hx hr h1 h63 hbytes hbase h
end

theorem quiet_add {P : Program} {f : FuncId} {args : Array Value} {w : World} {a n : Nat} {v : Value}
    (h : Calls P f args (w.drewN (a + n)) fun e w' => e = .returned v ∧ ∃ m, w' = (w.drewN (a + n)).drewN m) :
    Calls P f args (w.drewN (a + n)) fun e w'' => e = .returned v ∧ ∃ m, w'' = w.drewN (a + m) :=
  h.mono fun _ _ ⟨he, m, hm⟩ => ⟨he, n + m, by rw [hm, World.drewN_drewN, Nat.add_assoc]⟩
theorem quiet_add_same {P : Program} {f : FuncId} {args : Array Value} {w : World} {a n : Nat} {v : Value}
    (h : Calls P f args (w.drewN (a + n)) fun e w' => e = .returned v ∧ w' = w.drewN (a + n)) :
    Calls P f args (w.drewN (a + n)) fun e w'' => e = .returned v ∧ ∃ m, w'' = w.drewN (a + m) :=
  h.mono fun _ _ ⟨he, hm⟩ => ⟨he, n, hm⟩
theorem quiet_add_left {P : Program} {f : FuncId} {args : Array Value} {w : World} {a n : Nat} {v : Value}
    (h : Calls P f args (w.drewN (a + n)) fun e w' => e = .returned v ∧ w.drewN (a + n) = w') :
    Calls P f args (w.drewN (a + n)) fun e w'' => e = .returned v ∧ ∃ m, w'' = w.drewN (a + m) :=
  h.mono fun _ _ ⟨he, hm⟩ => ⟨he, n, hm.symm⟩
theorem quiet_left {P : Program} {f : FuncId} {args : Array Value} {w : World} {n : Nat} {v : Value}
    (h : Calls P f args (w.drewN n) fun e w' => e = .returned v ∧ w.drewN n = w') : Calls P f args (w.drewN n) fun e w'' => e = .returned v ∧ ∃ m, w'' = w.drewN m :=
  h.mono fun _ _ ⟨he, hm⟩ => ⟨he, n, hm.symm⟩

theorem below_drewN {B : Nat} {a w : World} (h : Below B a w) (n : Nat) : Below B a (w.drewN n) := ⟨h.os, h.tape, h.output, h.size, h.block⟩
theorem rowIs_drewN {w : World} {b : Nat} {t : TypeId} {n : Nat} {f : Nat → Value} (h : w.rowIs b t n f) (k : Nat) : (w.drewN k).rowIs b t n f := h
theorem grown_trans {a b c : World} (h : Grown a b) (k : Grown b c) : Grown a c :=
  ⟨World.keptBut_trans h.1 k.1, fun x => (k.2.1 x).trans (h.2.1 x), Nat.le_trans h.2.2 k.2.2⟩

theorem only_drewN {a w : World} {row : Option Nat} (h : a.grownBy w row) (n : Nat) : a.grownBy (w.drewN n) row := ⟨h.os, h.tape, h.output, h.size, h.block⟩
theorem only_drew {a w : World} {row : Option Nat} (h : a.grownBy w row) : a.grownBy w.drew row := ⟨h.os, h.tape, h.output, h.size, h.block⟩
theorem only_alloc {a w : World} {row : Option Nat} (h : a.grownBy w row) (o : Obj) : a.grownBy (w.alloc o) row :=
  ⟨h.os, h.tape, h.output, Nat.le_trans h.size (by simp), fun i hi hne => (Below.heap_alloc w o i (Nat.lt_of_lt_of_le hi h.size)).trans (h.block i hi hne)⟩
theorem only_setCell {a w : World} {g : Nat} (h : a.grownBy w (some g)) {p : Addr} (hp : p.block = g ∨ a.heap.size ≤ p.block) (u : Value) : a.grownBy (w.setCell p u) (some g) :=
  ⟨h.os, h.tape, h.output, by simpa [World.setCell] using h.size, fun i hi hne => (Below.heap_setCell w p u i (by
    rintro rfl
    rcases hp with hp | hp
    · exact hne (by rw [hp])
    · omega)).trans (h.block i hi hne)⟩
theorem only_of_below {a w : World} (h : Below a.heap.size a w) (row : Option Nat) : a.grownBy w row := ⟨h.os, h.tape, h.output, h.size, fun i hi _ => h.block i hi⟩

theorem run_make_rowN {P : Program} (t e : TypeId) (i : TypeInfo) (z : Value) (ht : P.underlying t = some (.slice e)) (hi : P.info? e = some i) (hz : i.zero = some z)
    (kl kc : IntKind) (n c : Nat) (hnc : n ≤ c) (hbytes : i.bytes * c ≤ 281474976710656) (h63 : c ≤ 9223372036854775807) (w : World) :
    (Instr.makeSlice t (.int kl (n : Int)) (.int kc (c : Int))).run P w = .ok (.slice (some ⟨w.heap.size, 0, none⟩) n c) (w.alloc (.cells (madeCells z.cells (c * i.size)) e)) := by
  have hb : (i.bytes : Int) * (c : Int) ≤ 281474976710656 := by
    have h : ((i.bytes * c : Nat) : Int) ≤ 281474976710656 := by omega
    rwa [Int.natCast_mul] at h
  have hr := run_make (P := P) w t e i z ht hi hz kl kc n c (by omega) (by omega) hb (by omega)
  simp only [Int.toNat_natCast] at hr
  exact hr
theorem run_makeMap_hint {P : Program} (t k e : TypeId) (kd : IntKind) (n : Int) (ht : P.underlying t = some (.map k e)) (w : World) :
    (Instr.makeMap t (some (.int kd n))).run P w = .ok (.map (some w.heap.size)) (w.alloc (.map #[] 0)) := by
  simp [Instr.makeMap, run_underlying ht]; rfl

theorem ofInt_i64 (a : Nat) (ha : a < 9223372036854775808) : (BitVec.ofInt 64 (a : Int)).toNat = a := by
  rw [BitVec.ofInt_natCast, BitVec.toNat_ofNat]; exact Nat.mod_eq_of_lt (by omega)
theorem i64_and_nat (a b : Nat) (ha : a < 9223372036854775808) (hb : b < 9223372036854775808) : bits .and .i64 (a : Int) (b : Int) = ((a &&& b : Nat) : Int) := by
  have hx : a &&& b < 2 ^ 63 := Nat.and_lt_two_pow _ (by omega)
  show IntKind.i64.wrap ((BitVec.ofInt 64 (a : Int) &&& BitVec.ofInt 64 (b : Int)).toNat : Int) = _
  rw [BitVec.toNat_and, ofInt_i64 a ha, ofInt_i64 b hb, IntKind.wrap_i64]
  omega
theorem i64_or_nat (a b : Nat) (ha : a < 9223372036854775808) (hb : b < 9223372036854775808) : bits .or .i64 (a : Int) (b : Int) = ((a ||| b : Nat) : Int) := by
  have hx : a ||| b < 2 ^ 63 := Nat.or_lt_two_pow (by omega) (by omega)
  show IntKind.i64.wrap ((BitVec.ofInt 64 (a : Int) ||| BitVec.ofInt 64 (b : Int)).toNat : Int) = _
  rw [BitVec.toNat_or, ofInt_i64 a ha, ofInt_i64 b hb, IntKind.wrap_i64]
  omega
theorem i64_xor_nat (a b : Nat) (ha : a < 9223372036854775808) (hb : b < 9223372036854775808) : bits .xor .i64 (a : Int) (b : Int) = ((a ^^^ b : Nat) : Int) := by
  have hx : a ^^^ b < 2 ^ 63 := Nat.xor_lt_two_pow (by omega) (by omega)
  show IntKind.i64.wrap ((BitVec.ofInt 64 (a : Int) ^^^ BitVec.ofInt 64 (b : Int)).toNat : Int) = _
  rw [BitVec.toNat_xor, ofInt_i64 a ha, ofInt_i64 b hb, IntKind.wrap_i64]
  omega

section
variable {H : Type} {enc : TypeId × Value → H} {P : Program}
theorem post_of_below {f : Func} {s : ChangeSpec} {apart fresh handsOn again : Bool} {W W' : World} {args : Array Value} {v : Value} {ds gs : List (DataW H)} {before pa pv : List MemPlace}
    (hW : DataW.Whole enc P f.params.toList s.vars apart W args.toList ds gs before)
    (hres : ∀ (b : Nat) (sp : Nat → Bool) (hd : Bool), DataW.TrodAll enc P W' b sp hd f.resultTypes.toList (v.resultList f.resultTypes.size) (s.fn H (ds ++ gs)).results [])
    (hargs : ∀ sp : Nat → Bool, (∀ p ∈ before, sp p.block = true) → DataW.TrodAll enc P W' 0 sp true f.params.toList args.toList (s.fn H (ds ++ gs)).args pa)
    (hvars : ∀ sp : Nat → Bool, (∀ p ∈ before, sp p.block = true) → DataW.TrodVars enc P W' sp s.vars (s.fn H (ds ++ gs)).vars pv)
    (hps : before = pa ++ pv) (hb : Below W.heap.size W W')
    (hok : ∀ (j : Nat) (t : TypeId) (r : Value), f.resultTypes[j]? = some t → (v.resultList f.resultTypes.size)[j]? = some r → Value.okWide P W' .any 0 t r) :
    s.post enc P f apart fresh handsOn again W args v W' := by
  have hlt : ∀ p ∈ before, p.block < W.heap.size := fun p hp => hW.lt p hp
  have hold : ∀ p ∈ before, (fun b => decide (b < W.heap.size)) p.block = true := fun p hp => by simpa using hlt p hp
  refine ⟨ds, gs, before, [], pa, pv, hW, hres _ _ _, hargs _ hold, hvars _ hold, World.keptBut_mono (fun p hp => ⟨hp, ?_⟩) (hb.frame (· ∈ before)), fun _ => ?_⟩
  · rw [hps, List.mem_append] at hp
    exact Or.inr hp
  · obtain ⟨_, _, _, _, _, hz, hn⟩ := hW
    refine ⟨hok, _, _, ([] ++ pa) ++ pv, ⟨[] ++ pa, pv, trodAll_append (hargs _ (fun _ _ => rfl)) (hres _ _ _), hvars _ (fun _ _ => rfl), rfl, ?_, ?_⟩, ?_⟩
    · intro b off hp
      have hin : MemPlace.cell b off ∈ before := by rw [hps]; simpa using hp
      rw [hb.frozen (hlt _ hin)]
      exact hz b off hin
    · intro ha
      have := hn ha
      rw [hps] at this
      simpa using this
    · intro p hp _
      rw [hps]
      simpa using hp
end

/-! ### bytes -/
def bv (b : UInt8) : Value := .int .u8 (b.toNat : Int)
theorem bv_one (l : List UInt8) : ∀ u ∈ l.map bv, u.oneCell' = true := by
  intro u hu
  obtain ⟨b, _, rfl⟩ := List.mem_map.1 hu
  rfl
/-- 'string(b)' of a row of bytes of the call's own. -/
theorem run_str_own {P : Program} {w : World} {base n : Nat} {src dst e : TypeId} {v : Value} {l : List UInt8} (hs : P.underlying src = some (.slice e)) (he : P.underlying e = some (.int .u8)) (hd : P.underlying dst = some .string)
    (h : w.ownsRow base e 1 v n (l.map bv)) : (convert src dst v).run P w = .ok (.string ⟨l.toArray⟩) w := by
  have hl : l.length = n := by simpa using h.1
  rcases h.2 with ⟨rfl, h0⟩ | ⟨g, cap, cur, rfl, hb, hg, hnc, hcm, hcs, htake⟩
  · have : l = [] := List.eq_nil_of_length_eq_zero (by omega)
    subst this
    exact run_convert_bytes_nil w src e hs he 0 0 dst hd
  · subst hl
    refine run_convert_bytes_back w src dst e _ cap l hs he hd (fun j hj => ?_)
    have := h.cells (g := g) rfl j (bv l[j]) (by simp [List.getElem?_map, List.getElem?_eq_getElem hj])
    exact this

theorem one_new {w : World} {u : Value} {e : TypeId} : ∀ j x, [u][j]? = some x → (w.alloc (.cells #[u] e)).cell? ((⟨w.heap.size, 0, none⟩ : Addr).add j) = some x := by
  intro j x hj
  match j, hj with
  | 0, hj =>
    simp at hj
    subst hj
    simp [Addr.add]
    first | done | rfl
  | j + 1, hj => simp at hj
theorem one_cell {u : Value} (h : u.oneCell' = true) : ∀ x ∈ [u], x.oneCell' = true := by
  intro x hx
  simp at hx
  subst hx
  exact h

/-! ### append, the type's facts under one name -/
structure AppTy (P : Program) (t e : TypeId) (z : Value) (size bytes : Nat) : Prop where
  und : P.underlying t = some (.slice e)
  inf : (P.info? e).map (fun i => (i.zero, i.size, i.bytes)) = some (some z, size, bytes)
  cells : z.cells.size = size
  pos : 0 < size

theorem reads_new {w : World} {e : TypeId} {size m : Nat} (cs : Array Value) (h : cs.size = m * size) : Reads (w.alloc (.cells cs e)) (w.heap.size + 1) size (some ⟨w.heap.size, 0, none⟩) m cs.toList := by
  refine ⟨by simpa using h, fun _ => ⟨_, rfl, Nat.lt_succ_self _, fun j u hu => ?_⟩⟩
  have hadd : (⟨w.heap.size, 0, none⟩ : Addr).add j = ⟨w.heap.size, j, none⟩ := by unfold Addr.add; split <;> simp_all
  rw [hadd, cell_of_row _ w.heap.size j cs e (0, 0) (heap_alloc_new w _)]
  simpa using hu

section
variable {P : Program} (w : World)
theorem wpList_app {t e : TypeId} {z : Value} {size bytes : Nat} (T : AppTy P t e z size bytes) (base : Nat) {ops : Array Oper} {rest : List Oper} {o : Oper} {a : Act} {Q : Exit → Act → World → Prop} (s x : Operand)
    (hgd : o.guard = none) (ho : o.op = .call { callee := .builtin .append, args := #[s, x], argTypes := #[t, t] })
    (v : Value) (n : Nat) (xs : List Value) (hs : a.eval s = v) (hown : w.ownsRow base e size v n xs)
    (B : Nat) (A : Option Addr) (m c : Nat) (news : List Value) (hx : a.eval x = .slice A m c) (hr : Reads w B size A m news) (h1 : ∀ u ∈ news, u.oneCell' = true)
    (h63 : n + m ≤ maxLen) (hbytes : (n + m) * bytes ≤ 140737488355328) (hbase : base ≤ w.heap.size)
    (h : ∀ v' w', w'.ownsRow base e size v' (n + m) (xs ++ news) → w.grownBy w' v.ownBlock → (v'.ownBlock = v.ownBlock ∨ v'.ownBlock = some w.heap.size) → wpList P ops Q rest (a.put o.dst v') w') : wpList P ops Q (o :: rest) a w := by
  obtain ⟨i0, hi, hz0, hz1, hz2⟩ := info_parts T.inf
  exact wpList_append_any w hgd s x t ho base e i0 z size bytes T.und hi hz0 hz1 hz2 T.cells T.pos v n xs hs hown B A m c news hx hr h1 h63 hbytes hbase h
theorem step_app {t e : TypeId} {z : Value} {size bytes : Nat} (T : AppTy P t e z size bytes) (base : Nat) {ops : Array Oper} {o : Oper} {a : Act} {K : Act → World → Prop} {Q : Exit → Act → World → Prop} {E : Prop} (s x : Operand)
    (hgd : o.guard = none) (ho : o.op = .call { callee := .builtin .append, args := #[s, x], argTypes := #[t, t] })
    (v : Value) (n : Nat) (xs : List Value) (hs : a.eval s = v) (hown : w.ownsRow base e size v n xs)
    (B : Nat) (A : Option Addr) (m c : Nat) (news : List Value) (hx : a.eval x = .slice A m c) (hr : Reads w B size A m news) (h1 : ∀ u ∈ news, u.oneCell' = true)
    (h63 : n + m ≤ maxLen) (hbytes : (n + m) * bytes ≤ 140737488355328) (hbase : base ≤ w.heap.size)
    (h : ∀ v' w', w'.ownsRow base e size v' (n + m) (xs ++ news) → w.grownBy w' v.ownBlock → (v'.ownBlock = v.ownBlock ∨ v'.ownBlock = some w.heap.size) → K (a.put o.dst v') w') :
    if Region.wanted o (yielded ops a.tmps) = true then Oper.wp P o a w K Q else E := by
  obtain ⟨i0, hi, hz0, hz1, hz2⟩ := info_parts T.inf
  exact step_append_any w hgd s x t ho base e i0 z size bytes T.und hi hz0 hz1 hz2 T.cells T.pos v n xs hs hown B A m c news hx hr h1 h63 hbytes hbase h
end

theorem below_grown_own {B : Nat} {a w w' : World} {base : Nat} {e : TypeId} {size n : Nat} {v : Value} {xs : List Value} (h : Below B a w) (hown : w.ownsRow base e size v n xs) (hg : w.grownBy w' v.ownBlock) (hB : B ≤ base) (hw : B ≤ w.heap.size) : Below B a w' :=
  h.grown hg hw fun k hk => Nat.le_trans hB (hown.lt k hk).1

/-- A length that is small; its numeral is hidden from the walk. -/
def Small (k : Nat) : Prop := k ≤ 16777216
theorem small_of {k : Nat} (h : k ≤ 16777216) : Small k := h
theorem Small.le {k : Nat} (h : Small k) : k ≤ 16777216 := h
section
variable {P : Program} (w : World)
theorem ap_plain {t e : TypeId} {z : Value} {size bytes : Nat} (T : AppTy P t e z size bytes) (hb64 : bytes ≤ 64) (base : Nat) {ops : Array Oper} {rest : List Oper} {o : Oper} {a : Act} {Q : Exit → Act → World → Prop} (s x : Operand)
    (hgd : o.guard = none) (ho : o.op = .call { callee := .builtin .append, args := #[s, x], argTypes := #[t, t] })
    (v : Value) (n : Nat) (xs : List Value) (hs : a.eval s = v) (hown : w.ownsRow base e size v n xs)
    (B : Nat) (A : Option Addr) (m c : Nat) (news : List Value) (hx : a.eval x = .slice A m c) (hr : Reads w B size A m news) (h1 : ∀ u ∈ news, u.oneCell' = true)
    (hsm : Small (n + m)) (hbase : base ≤ w.heap.size)
    (h : ∀ v' w', w'.ownsRow base e size v' (n + m) (xs ++ news) → w.grownBy w' v.ownBlock → (v'.ownBlock = v.ownBlock ∨ v'.ownBlock = some w.heap.size) → wpList P ops Q rest (a.put o.dst v') w') : wpList P ops Q (o :: rest) a w := by
  unfold Small at hsm
  refine wpList_app w T base s x hgd ho v n xs hs hown B A m c news hx hr h1 (by unfold maxLen; omega) ?_ hbase h
  have : (n + m) * bytes ≤ 16777216 * 64 := Nat.mul_le_mul hsm hb64
  omega
theorem ap_step {t e : TypeId} {z : Value} {size bytes : Nat} (T : AppTy P t e z size bytes) (hb64 : bytes ≤ 64) (base : Nat) {ops : Array Oper} {o : Oper} {a : Act} {K : Act → World → Prop} {Q : Exit → Act → World → Prop} {E : Prop} (s x : Operand)
    (hgd : o.guard = none) (ho : o.op = .call { callee := .builtin .append, args := #[s, x], argTypes := #[t, t] })
    (v : Value) (n : Nat) (xs : List Value) (hs : a.eval s = v) (hown : w.ownsRow base e size v n xs)
    (B : Nat) (A : Option Addr) (m c : Nat) (news : List Value) (hx : a.eval x = .slice A m c) (hr : Reads w B size A m news) (h1 : ∀ u ∈ news, u.oneCell' = true)
    (hsm : Small (n + m)) (hbase : base ≤ w.heap.size)
    (h : ∀ v' w', w'.ownsRow base e size v' (n + m) (xs ++ news) → w.grownBy w' v.ownBlock → (v'.ownBlock = v.ownBlock ∨ v'.ownBlock = some w.heap.size) → K (a.put o.dst v') w') :
    if Region.wanted o (yielded ops a.tmps) = true then Oper.wp P o a w K Q else E := by
  unfold Small at hsm
  refine step_app w T base s x hgd ho v n xs hs hown B A m c news hx hr h1 (by unfold maxLen; omega) ?_ hbase h
  have : (n + m) * bytes ≤ 16777216 * 64 := Nat.mul_le_mul hsm hb64
  omega
end

/-! ### make([]T, n) -/
/-- The cells of a row of zeros, closed to the walk. -/
def zrow (z : Value) (k : Nat) : Array Value := madeCells z.cells k
theorem zrow_size (z : Value) (k : Nat) : (zrow z k).size = k := size_madeCells _ _
theorem zrow_one {z : Value} (hz : z.cells = #[z]) (k : Nat) : (zrow z k).toList = List.replicate k z := by unfold zrow; rw [hz]; exact toList_madeCells_one z k
theorem make_eq {P : Program} {t e : TypeId} {z : Value} {size bytes : Nat} (T : AppTy P t e z size bytes) (hb64 : bytes ≤ 64) (n : Nat) (hn : Small n) (W : World) :
    (Instr.makeSlice t (.int .i64 (n : Int)) (.int .i64 (n : Int))).run P W = .ok (.slice (some ⟨W.heap.size, 0, none⟩) n n) (W.alloc (.cells (zrow z (n * size)) e)) := by
  obtain ⟨i0, hi, hz0, hz1, hz2⟩ := info_parts T.inf
  unfold Small at hn
  have h := run_make_rowN (P := P) t e i0 z T.und hi hz0 .i64 .i64 n n (Nat.le_refl _) (by
    rw [hz2]
    have : bytes * n ≤ 64 * 16777216 := Nat.mul_le_mul hb64 hn
    omega) (by omega) W
  rw [hz1] at h
  exact h
theorem own_zrow {base : Nat} {e : TypeId} {size n : Nat} {W : World} (z : Value) (hb : base ≤ W.heap.size) (hn : Small n) :
    (W.alloc (.cells (zrow z (n * size)) e)).ownsRow base e size (.slice (some ⟨W.heap.size, 0, none⟩) n n) n (zrow z (n * size)).toList :=
  World.ownsRow_lit W _ n hb (by unfold Small at hn; unfold maxLen; omega) (zrow_size _ _)

end Go.Proofs.YtomkgnamjfiocaaGreatDoor
namespace Go.Proofs.YtomkgnamjfiocaaGreatDoor
open Go.RowKit Go.ChangeShapes Go.WideShapes Go.ChangeAt Go.Deep
set_option linter.unusedVariables false

def inB (n a b : Int) : Bool := decide (a ≤ n ∧ n ≤ b)
theorem inB_true {n a b : Int} : inB n a b = true ↔ a ≤ n ∧ n ≤ b := by simp [inB]
theorem inB_false {n a b : Int} : inB n a b = false ↔ n < a ∨ b < n := by simp [inB]; omega

theorem within_any (n a b : Int) (w : World) :
    Calls Tryz.prog 55 #[.int .i64 n, .int .i64 a, .int .i64 b] w fun e w' => e = .returned (.bool (inB n a b)) ∧ w = w' := by
  by_cases h1 : a ≤ n
  · by_cases h2 : n ≤ b
    · have H : inB n a b = true := by simp [inB, h1, h2]
      rw [H]
      go_enter Tryz.func55, Tryz.ntmps55
      go_wp2
      go_ret
      exact ⟨rfl, rfl⟩
    · have H : inB n a b = false := by simp [inB, h1, h2]
      rw [H]
      go_enter Tryz.func55, Tryz.ntmps55
      go_wp2
      go_ret
      exact ⟨rfl, rfl⟩
  · have H : inB n a b = false := by simp [inB, h1]
    rw [H]
    go_enter Tryz.func55, Tryz.ntmps55
    go_wp2
    go_ret
    exact ⟨rfl, rfl⟩

theorem l1In_any (n a b : Int) (w : World) :
    Calls Tryz.prog 88 #[.int .i64 n, .int .i64 a, .int .i64 b] w fun e w' => e = .returned (.bool (inB n a b)) ∧ w = w' := by
  by_cases h1 : a ≤ n
  · by_cases h2 : n ≤ b
    · have H : inB n a b = true := by simp [inB, h1, h2]
      rw [H]
      go_enter Tryz.func88, Tryz.ntmps88
      go_wp2
      go_ret
      exact ⟨rfl, rfl⟩
    · have H : inB n a b = false := by simp [inB, h1, h2]
      rw [H]
      go_enter Tryz.func88, Tryz.ntmps88
      go_wp2
      go_ret
      exact ⟨rfl, rfl⟩
  · have H : inB n a b = false := by simp [inB, h1]
    rw [H]
    go_enter Tryz.func88, Tryz.ntmps88
    go_wp2
    go_ret
    exact ⟨rfl, rfl⟩
end Go.Proofs.YtomkgnamjfiocaaGreatDoor
namespace Go.Proofs.YtomkgnamjfiocaaGreatDoor
open Go.RowKit Go.ChangeShapes Go.WideShapes Go.ChangeAt Go.Deep
set_option linter.unusedVariables false

def iv (x : Int) : Value := .int .i64 x
theorem iv_one (l : List Int) : ∀ u ∈ l.map iv, u.oneCell' = true := by
  intro u hu
  obtain ⟨b, _, rfl⟩ := List.mem_map.1 hu
  rfl
theorem app_int : AppTy Tryz.prog 24 3 (.int .i64 0) 1 8 := ⟨Tryz.underlying24, by kernel_rfl, rfl, by decide⟩

/-- What the walk is told of a slice of ints that came in. -/
def ArgInts (w : World) (v : Value) : Prop :=
  ∃ (A : Option Addr) (n c : Nat) (xs : List Int), v = .slice A n c ∧ xs.length = n ∧ n ≤ c ∧ c ≤ maxLen ∧ Reads w w.heap.size 1 A n (xs.map iv) ∧ ∀ x ∈ xs, (Lit.int .i64 x).wf = true

theorem argInts_of {H : Type} {enc : TypeId × Value → H} {P : Program} {t e : TypeId} (ht : P.underlying t = some (.slice e)) (he : P.underlying e = some (.int .i64)) (hc : P.cellsOf e = 1) {W : World} {spare : Nat → Bool} {held : Bool} {base : Nat}
    {n0 len cap : Nat} {a0 : Option Addr} {x : DataW H × List MemPlace} (hf : DataW.trod enc P W base spare held n0 t [.slice a0 len cap] = some x) : ArgInts W (.slice a0 len cap) := by
  have hlt := DataW.trod_lt (w := W) n0 _ _ _ hf
  rcases open_ints ht he hc hf with ⟨hcs, _⟩ | ⟨y, l, c, zs, hcs, _, hl, hm, hz, hx, hcell, hwz⟩
  · simp at hcs
    obtain ⟨rfl, rfl, rfl⟩ := hcs
    exact ⟨none, 0, 0, [], rfl, rfl, Nat.le_refl _, Nat.zero_le _, Reads.none_, by simp⟩
  · simp at hcs
    obtain ⟨rfl, rfl, rfl⟩ := hcs
    have hz' : len ≤ zs.length := by rw [hz]; split <;> omega
    refine ⟨some y, len, cap, zs.take len, rfl, by rw [List.length_take]; omega, hl, hm, ⟨by rw [List.length_map, List.length_take]; omega, fun hn => ⟨y, rfl, ?_, fun j u hu => ?_⟩⟩, fun x hx => hwz x (List.mem_of_mem_take hx)⟩
    · have h0 := hcell 0 (by omega)
      have := World.block_lt_of_cell? W _ h0
      rwa [block_of_add] at this
    · rw [List.getElem?_map] at hu
      rcases Nat.lt_or_ge j len with hj | hj
      · rw [List.getElem?_take, if_pos hj] at hu
        have h0 := hcell j (by omega)
        rw [h0]
        rw [List.getD_eq_getElem?_getD]
        cases hzj : zs[j]? with
        | none => rw [hzj] at hu; simp at hu
        | some q => rw [hzj] at hu; simpa [iv] using hu
      · rw [List.getElem?_take, if_neg (by omega)] at hu
        simp at hu
set_option maxRecDepth 100000 in
theorem argInts {H : Type} {enc : TypeId × Value → H} {W : World} {spare : Nat → Bool} {held : Bool} {base b0 : Nat} {r : Reach} {v : Value} {d : DataW H} {p : List MemPlace} (hv : Value.okWide Tryz.prog W r b0 24 v)
    (h : DataW.Trod enc Tryz.prog W base spare held 24 v d p) : ArgInts W v := by
  obtain ⟨a0, len, cap, rfl⟩ := okWide_slice Tryz.underlying24 hv
  obtain ⟨fuel, hf⟩ := h
  exact argInts_of Tryz.underlying24 Tryz.underlying3 (by kernel_rfl) hf

theorem own_below {w w' : World} {base B : Nat} {e : TypeId} {size n : Nat} {v : Value} {xs : List Value} (h : w.ownsRow base e size v n xs) (hb : Below B w w') (hB : w.heap.size ≤ B) : w'.ownsRow base e size v n xs := by
  refine ⟨h.1, ?_⟩
  rcases h.2 with hn | ⟨g, cap, cur, rfl, hb1, hgg, rest⟩
  · exact .inl hn
  · refine .inr ⟨g, cap, cur, rfl, hb1, ?_, rest⟩
    have hlt := (Array.getElem?_eq_some_iff.1 hgg).1
    rw [hb.block g (by omega)]
    exact hgg
theorem own_rebase {w : World} {base base' : Nat} {e : TypeId} {size n : Nat} {v : Value} {xs : List Value} (h : w.ownsRow base e size v n xs) (hB : base' ≤ base) : w.ownsRow base' e size v n xs := by
  refine ⟨h.1, ?_⟩
  rcases h.2 with hn | ⟨g, cap, cur, rfl, hb1, rest⟩
  · exact .inl hn
  · exact .inr ⟨g, cap, cur, rfl, Nat.le_trans hB hb1, rest⟩
/-- An owned row as a slice value that reads. -/
theorem own_form {w : World} {base : Nat} {e : TypeId} {size n : Nat} {v : Value} {xs : List Value} (h : w.ownsRow base e size v n xs) : ∃ A c, v = .slice A n c ∧ n ≤ c ∧ c ≤ maxLen ∧ Reads w w.heap.size size A n xs := by
  rcases h.2 with ⟨rfl, rfl⟩ | ⟨g, cap, cur, rfl, hb1, hgg, hnc, hcm, rest⟩
  · refine ⟨none, 0, rfl, Nat.le_refl _, Nat.zero_le _, ?_⟩
    have : xs = [] := List.eq_nil_of_length_eq_zero (by simpa using h.1)
    subst this
    exact Reads.none_
  · exact ⟨_, cap, rfl, hnc, hcm, Reads.of_own h⟩
theorem iv_get {xs : List Int} {k : Nat} {u : Value} (h : (xs.map iv)[k]? = some u) (hk : k < xs.length) : u = iv xs[k] := by
  rw [List.getElem?_map, List.getElem?_eq_getElem hk] at h
  simpa using h.symm

theorem set_take {α : Type} (L R : List α) (k : Nat) (x : α) (hk : k < R.length) (hL : L.length = R.length) (hx : R[k] = x) : (R.take k ++ L.drop k).set k x = R.take (k + 1) ++ L.drop (k + 1) := by
  subst hx
  rw [List.set_append_right _ _ (by simp; omega)]
  rw [List.length_take, Nat.min_eq_left (by omega), Nat.sub_self]
  rw [List.drop_eq_getElem_cons (show k < L.length by omega), List.set_cons_zero, List.take_succ_eq_append_getElem hk, List.append_assoc]
  rfl

theorem reads_up {W w : World} {size n : Nat} {A : Option Addr} {xs : List Value} (h : Reads W W.heap.size size A n xs) (hb : Below W.heap.size W w) : Reads w w.heap.size size A n xs := (h.below hb).more hb.size
theorem below_then {W a b : World} (h : Below W.heap.size W a) (k : Below a.heap.size a b) : Below W.heap.size W b := h.trans (k.mono h.size)
def eqB (xs ys : List Int) : Bool := decide (xs = ys)
theorem eqB_refl (xs : List Int) : eqB xs xs = true := by simp [eqB]
theorem take_eq_succ {α : Type} {xs ys : List α} {k : Nat} (h : xs.take k = ys.take k) (h1 : k < xs.length) (h2 : k < ys.length) : xs.take (k + 1) = ys.take (k + 1) ↔ xs[k] = ys[k] := by
  rw [List.take_succ_eq_append_getElem h1, List.take_succ_eq_append_getElem h2, h]
  exact ⟨fun hh => by simpa using List.append_cancel_left hh, fun hh => by rw [hh]⟩
end Go.Proofs.YtomkgnamjfiocaaGreatDoor
namespace Go.Proofs.YtomkgnamjfiocaaGreatDoor
open Go.RowKit Go.ChangeShapes Go.WideShapes Go.ChangeAt Go.Deep
set_option linter.unusedVariables false

theorem specIsMove_any (n : Int) (w : World) :
    Calls Tryz.prog 96 #[.int .i64 n] w fun e w' => e = .returned (.bool (inB n 0 5)) ∧ w = w' := by
  go_enter Tryz.func96, Tryz.ntmps96
  go_wp2_with (go_at_call 88; refine (l1In_any _ _ _ _).mono ?_; rintro e w' ⟨rfl, rfl⟩)
  go_ret
  exact ⟨rfl, rfl⟩

def invL (n : Int) : Int := if inB n 0 5 then bits .xor .i64 n 1 else n
theorem specInverse_any (n : Int) (w : World) :
    Calls Tryz.prog 48 #[.int .i64 n] w fun e w' => e = .returned (.int .i64 (invL n)) ∧ w = w' := by
  cases hb : inB n 0 5
  · have H : invL n = n := by simp [invL, hb]
    rw [H]; clear H
    go_enter Tryz.func48, Tryz.ntmps48
    go_wp2_with (go_at_call 96; refine (specIsMove_any _ _).mono ?_; rintro e w' ⟨rfl, rfl⟩)
    go_ret
    exact ⟨rfl, rfl⟩
  · have H : invL n = bits .xor .i64 n 1 := by simp [invL, hb]
    rw [H]; clear H
    go_enter Tryz.func48, Tryz.ntmps48
    go_wp2_with (go_at_call 96; refine (specIsMove_any _ _).mono ?_; rintro e w' ⟨rfl, rfl⟩)
    go_ret
    exact ⟨rfl, rfl⟩

end Go.Proofs.YtomkgnamjfiocaaGreatDoor
namespace Go.Proofs.YtomkgnamjfiocaaGreatDoor
open Go.RowKit Go.ChangeShapes Go.WideShapes Go.ChangeAt Go.Deep
set_option linter.unusedVariables false

theorem l2Letter_any (n : Int) (w : World) :
    Calls Tryz.prog 139 #[.int .i64 n] w fun e w' => e = .returned (.bool (inB n 0 8)) ∧ w = w' := by
  go_enter Tryz.func139, Tryz.ntmps139
  go_wp2_with (go_at_call 88; refine (l1In_any _ _ _ _).mono ?_; rintro e w' ⟨rfl, rfl⟩)
  go_ret
  exact ⟨rfl, rfl⟩
def letters : List (List UInt8) := [[97], [97, 45], [98], [98, 45], [99], [99, 45], [48], [49], [50]]
def fmtL (n : Int) : List UInt8 := if inB n 0 8 then letters.getD n.toNat [] else []
set_option maxHeartbeats 4000000 in
theorem specFormatL_any (n : Int) (w : World) :
    Calls Tryz.prog 121 #[.int .i64 n] w fun e w' => e = .returned (.string ⟨(fmtL n).toArray⟩) ∧ Below w.heap.size w w' := by
  by_cases h : inB n 0 8 = true
  · have h' := inB_true.1 h
    have : n = 0 ∨ n = 1 ∨ n = 2 ∨ n = 3 ∨ n = 4 ∨ n = 5 ∨ n = 6 ∨ n = 7 ∨ n = 8 := by omega
    rcases this with rfl | rfl | rfl | rfl | rfl | rfl | rfl | rfl | rfl
    all_goals
      go_enter Tryz.func121, Tryz.ntmps121
      go_wp2_with (go_at_call 139; refine (l2Letter_any _ _).mono ?_; rintro e w' ⟨rfl, rfl⟩)
      go_ret
      exact ⟨rfl, (Below.refl _ _).alloc (Nat.le_refl _) _⟩
  · have h1 : inB n 0 8 = false := by simpa using h
    go_enter Tryz.func121, Tryz.ntmps121
    go_wp2_with (go_at_call 139; refine (l2Letter_any _ _).mono ?_; rintro e w' ⟨rfl, rfl⟩)
    go_ret
    exact ⟨by simp [fmtL, h1], Below.refl _ _⟩

def letIx (l : List UInt8) : Nat := letters.idxOf l
def parseLN (l : List UInt8) : Int := if letIx l < 9 then (letIx l : Int) else 0
def parseLB (l : List UInt8) : Bool := decide (letIx l < 9)
theorem letIx_le (l : List UInt8) : letIx l ≤ 9 := by unfold letIx; exact List.idxOf_le_length (l := letters)
theorem letters_nodup : letters.Nodup := by decide
theorem letIx_hit {l : List UInt8} {k : Nat} (hk : k < 9) : fmtL (k : Int) = l ↔ letIx l = k := by
  have h9 : k < letters.length := hk
  have hf : fmtL (k : Int) = letters[k]'h9 := by
    unfold fmtL
    rw [if_pos (inB_true.2 (by omega))]
    simp [List.getD, List.getElem?_eq_getElem h9]
  rw [hf]
  constructor
  · rintro rfl
    unfold letIx
    exact letters_nodup.idxOf_getElem k h9
  · intro h
    unfold letIx at h
    subst h
    exact List.getElem_idxOf h9
end Go.Proofs.YtomkgnamjfiocaaGreatDoor
namespace Go.Proofs.YtomkgnamjfiocaaGreatDoor
open Go.RowKit Go.ChangeShapes Go.WideShapes Go.ChangeAt Go.Deep
set_option linter.unusedVariables false

def wordB (xs : List Int) : Bool := xs.all (fun x => inB x 0 8) && decide (xs.length ≤ 8)
end Go.Proofs.YtomkgnamjfiocaaGreatDoor
namespace Go.Proofs.YtomkgnamjfiocaaGreatDoor
open Go.RowKit Go.ChangeShapes Go.WideShapes Go.ChangeAt Go.Deep
set_option linter.unusedVariables false

structure E where
  id : Int
  fr : Int
  to : Int
  lb : Int
deriving DecidableEq
def ec (e : E) : List Value := [.int .i64 e.id, .int .i64 e.fr, .int .i64 e.to, .int .i64 e.lb]
def ecs (es : List E) : List Value := es.flatMap ec
theorem app_edge : AppTy Tryz.prog 25 90 (.agg #[.int .i64 0, .int .i64 0, .int .i64 0, .int .i64 0]) 4 32 := ⟨Tryz.underlying25, by kernel_rfl, rfl, by decide⟩
theorem ecs_len (es : List E) : (ecs es).length = es.length * 4 := by
  induction es with
  | nil => rfl
  | cons e es ih => simp [ecs, List.flatMap_cons, ec] at *; omega
theorem ecs_cons (e : E) (es : List E) : ecs (e :: es) = ec e ++ ecs es := rfl
theorem ecs_append (a b : List E) : ecs (a ++ b) = ecs a ++ ecs b := by simp [ecs]
theorem ecs_at : ∀ (es : List E) (k j : Nat) (hk : k < es.length) (hj : j < 4), (ecs es)[k * 4 + j]? = (ec es[k])[j]?
  | e :: es, 0, j, hk, hj => by
    rw [ecs_cons, List.getElem?_append_left (by simp [ec]; omega)]
    simp
  | e :: es, k + 1, j, hk, hj => by
    rw [ecs_cons, List.getElem?_append_right (by simp [ec]; omega)]
    have : (k + 1) * 4 + j - (ec e).length = k * 4 + j := by simp [ec]; omega
    rw [this, ecs_at es k j (by simpa using hk) hj]
    simp
theorem ecs_one : ∀ (es : List E), ∀ u ∈ ecs es, u.oneCell' = true := by
  intro es u hu
  obtain ⟨e, _, he⟩ := List.mem_flatMap.1 hu
  simp [ec] at he
  rcases he with rfl | rfl | rfl | rfl <;> rfl
theorem add_plain (b o i : Nat) : (⟨b, o, none⟩ : Addr).add i = ⟨b, o + i, none⟩ := by unfold Addr.add; split <;> simp_all
/-- The cells of edge k, in a world where the row reads. -/
theorem edge_at {w : World} {B n k : Nat} {A : Option Addr} {es : List E} (h : Reads w B 4 A n (ecs es)) (hl : es.length = n) (hk : k < n) :
    ∃ b o, A = some ⟨b, o, none⟩ ∧ b < B ∧ ∃ e, es[k]? = some e ∧ w.cell? ⟨b, o + k * 4, none⟩ = some (.int .i64 e.id) ∧ w.cell? ⟨b, o + k * 4 + 1, none⟩ = some (.int .i64 e.fr) ∧ w.cell? ⟨b, o + k * 4 + 2, none⟩ = some (.int .i64 e.to) ∧ w.cell? ⟨b, o + k * 4 + 3, none⟩ = some (.int .i64 e.lb) := by
  obtain ⟨⟨b, o, sp⟩, hA, hb, hc⟩ := h.2 (by omega)
  have hkl : k < es.length := by omega
  have c0 := hc _ _ (ecs_at es 0 0 (by omega) (by omega))
  have hsp : sp = none := by
    have h0 := hc 0 (.int .i64 (es[0]'(by omega)).id) (ecs_at es 0 0 (by omega) (by omega))
    simpa [Addr.add] using World.cell?_spot h0
  subst hsp
  refine ⟨b, o, hA, hb, es[k], List.getElem?_eq_getElem hkl, ?_, ?_, ?_, ?_⟩
  · have := hc _ _ (ecs_at es k 0 hkl (by omega))
    rwa [add_plain] at this
  · have := hc _ _ (ecs_at es k 1 hkl (by omega))
    rwa [add_plain, ← Nat.add_assoc] at this
  · have := hc _ _ (ecs_at es k 2 hkl (by omega))
    rwa [add_plain, ← Nat.add_assoc] at this
  · have := hc _ _ (ecs_at es k 3 hkl (by omega))
    rwa [add_plain, ← Nat.add_assoc] at this
theorem own_some {w : World} {base g n cap size : Nat} {e : TypeId} {xs : List Value} (h : w.ownsRow base e size (.slice (some ⟨g, 0, none⟩) n cap) n xs) (j : Nat) (hj : j < n * size) : ∃ z, w.cell? ⟨g, j, none⟩ = some z := by
  have hl := h.1
  exact ⟨xs[j]'(by omega), by rw [h.cellAt j hj, List.getElem?_eq_getElem]⟩
theorem get_of_some {α : Type} {R : List α} {k : Nat} {x : α} (h : R[k]? = some x) : ∃ hk : k < R.length, R[k] = x := by
  obtain ⟨hk, hx⟩ := List.getElem?_eq_some_iff.1 h
  exact ⟨hk, hx⟩
/-- Four cells stored: element k of a row of four-cell elements. -/
theorem own4 {w : World} {base g n cap k : Nat} {e : TypeId} {R L : List Value} {u0 u1 u2 u3 : Value} (h : w.ownsRow base e 4 (.slice (some ⟨g, 0, none⟩) n cap) n (R.take (k * 4) ++ L.drop (k * 4))) (hL : L.length = R.length)
    (h0 : R[k * 4]? = some u0) (h1 : R[k * 4 + 1]? = some u1) (h2 : R[k * 4 + 2]? = some u2) (h3 : R[k * 4 + 3]? = some u3) :
    ((((w.setCell ⟨g, k * 4, none⟩ u0).setCell ⟨g, k * 4 + 1, none⟩ u1).setCell ⟨g, k * 4 + 2, none⟩ u2).setCell ⟨g, k * 4 + 3, none⟩ u3).ownsRow base e 4 (.slice (some ⟨g, 0, none⟩) n cap) n (R.take ((k + 1) * 4) ++ L.drop ((k + 1) * 4)) := by
  obtain ⟨k0, e0⟩ := get_of_some h0
  obtain ⟨k1, e1⟩ := get_of_some h1
  obtain ⟨k2, e2⟩ := get_of_some h2
  obtain ⟨k3, e3⟩ := get_of_some h3
  have s0 := (h.stored (k * 4) u0).1
  rw [set_take L R _ _ k0 hL e0] at s0
  have s1 := (s0.stored (k * 4 + 1) u1).1
  rw [set_take L R _ _ k1 hL e1] at s1
  have s2 := (s1.stored (k * 4 + 2) u2).1
  rw [set_take L R _ _ k2 hL e2] at s2
  have s3 := (s2.stored (k * 4 + 3) u3).1
  rw [set_take L R _ _ k3 hL e3] at s3
  have hk : (k + 1) * 4 = k * 4 + 3 + 1 := by omega
  rw [hk]
  exact s3
theorem bcell {W w1 : World} (hb : Below W.heap.size W w1) : (∀ b o, b < W.heap.size → w1.cell? ⟨b, o, none⟩ = W.cell? ⟨b, o, none⟩) ∧ (∀ b o, b < W.heap.size → w1.frozen? ⟨b, o, none⟩ = W.frozen? ⟨b, o, none⟩) :=
  ⟨fun b o h => hb.cell (p := ⟨b, o, none⟩) h, fun b o h => hb.frozen (p := ⟨b, o, none⟩) h⟩
theorem cell_keep {X w1 : World} {p : Addr} {v : Value} (hb : Below X.heap.size X w1) (h : X.cell? p = some v) : w1.cell? p = some v := (hb.cell (World.block_lt_of_cell? X p h)).trans h
theorem cell_al {w : World} {p : Addr} {v : Value} (o : Obj) (h : w.cell? p = some v) : (w.alloc o).cell? p = some v := (World.cell?_alloc_lt w o p (World.block_lt_of_cell? w p h)).trans h
theorem frozen_keep {X w1 : World} {p : Addr} {v : Value} (hb : Below X.heap.size X w1) (h : X.cell? p = some v) (hf : X.frozen? p = false) : w1.frozen? p = false := (hb.frozen (World.block_lt_of_cell? X p h)).trans hf
/-- A world that has at most new blocks beside w's own. -/
structure Kept (w : World) where
  W : World
  be : Below w.heap.size w W
instance (w : World) : Nonempty (Kept w) := ⟨⟨w, Below.refl _ _⟩⟩
theorem Kept.cell {w : World} {p : Addr} {v : Value} (h : w.cell? p = some v) (x : Kept w) : x.W.cell? p = some v := cell_keep x.be h
theorem wp_region_kept {P : Program} {id : Nat} {Q : Exit → Act → World → Prop} {a : Act} {w : World} {l : List Oper} (hm : P.follows .mixedOrders = true) (hB : Region.lexB .any l.toArray = true)
    (h : wpQuiet P l.toArray (fun w' => ∃ x : Kept w, w' = x.W) (fun a' => ∀ w', (∃ x : Kept w, w' = x.W) → Q .normal a' w') l a) : (Code.region id l.toArray true).wp P Q a w :=
  wp_region_quiet (C := fun w' => ∃ x : Kept w, w' = x.W) hm hB ⟨⟨w.drew, (Below.refl _ _).drew⟩, rfl⟩ (by simpa using h)
theorem Calls.kept {P : Program} {f : FuncId} {args : Array Value} {w : World} {x : Kept w} {v : Value} (h : Calls P f args x.W fun e w' => e = .returned v ∧ Below x.W.heap.size x.W w') :
    Calls P f args x.W fun e w'' => e = .returned v ∧ ∃ y : Kept w, w'' = y.W :=
  h.mono fun _ w'' ⟨he, hb⟩ => ⟨he, ⟨w'', below_then x.be hb⟩, rfl⟩
structure G where
  vs : List Int
  es : List E
deriving DecidableEq
/-- Two slice values that read as a graph. -/
structure GReads (w : World) (A : Option Addr) (n : Nat) (B : Option Addr) (m : Nat) (g : G) : Prop where
  ln : g.vs.length = n
  lm : g.es.length = m
  rv : Reads w w.heap.size 1 A n (g.vs.map iv)
  re : Reads w w.heap.size 4 B m (ecs g.es)
theorem GReads.up {W w : World} {A B : Option Addr} {n m : Nat} {g : G} (h : GReads W A n B m g) (hb : Below W.heap.size W w) : GReads w A n B m g :=
  ⟨h.ln, h.lm, reads_up h.rv hb, reads_up h.re hb⟩
/-- Two slice values of the call's own that read as a graph. -/
structure GOwn (w : World) (base : Nat) (u v : Value) (g : G) : Prop where
  ov : w.ownsRow base 3 1 u g.vs.length (g.vs.map iv)
  oe : w.ownsRow base 90 4 v g.es.length (ecs g.es)
theorem GOwn.below {w w' : World} {base : Nat} {u v : Value} {g : G} (h : GOwn w base u v g) (hb : Below w.heap.size w w') : GOwn w' base u v g :=
  ⟨own_below h.ov hb (Nat.le_refl _), own_below h.oe hb (Nat.le_refl _)⟩
theorem GOwn.form {w : World} {base : Nat} {u v : Value} {g : G} (h : GOwn w base u v g) : ∃ A c B d, u = .slice A g.vs.length c ∧ v = .slice B g.es.length d ∧ GReads w A g.vs.length B g.es.length g := by
  obtain ⟨A, c, h1, _, _, h2⟩ := own_form h.ov
  obtain ⟨B, d, h3, _, _, h4⟩ := own_form h.oe
  exact ⟨A, c, B, d, h1, h3, rfl, rfl, h2, h4⟩
end Go.Proofs.YtomkgnamjfiocaaGreatDoor
namespace Go.Proofs.YtomkgnamjfiocaaGreatDoor
open Go.RowKit Go.ChangeShapes Go.WideShapes Go.ChangeAt Go.Deep
set_option linter.unusedVariables false

def szI (l : Int) (n : Nat) : Int := if l - n < 0 then -1 else l - n
def szG (l : Int) (n m : Nat) : Int := if l - n < 0 then -1 else szI (l - n) m
theorem szG_ok {l : Int} {n m : Nat} (h : ¬ szG l n m < 0) : n + m ≤ l ∧ szG l n m = l - n - m ∧ 0 ≤ szG l n m ∧ szG l n m ≤ l := by
  unfold szG szI at *
  split at h
  · omega
  · split at h
    · omega
    · rw [if_neg (by assumption), if_neg (by assumption)]
      omega
theorem GOwn.reads {w : World} {base b1 b2 n m c d : Nat} {g : G} (h : GOwn w base (.slice (some ⟨b1, 0, none⟩) n c) (.slice (some ⟨b2, 0, none⟩) m d) g) (ln : g.vs.length = n) (lm : g.es.length = m) : GReads w (some ⟨b1, 0, none⟩) n (some ⟨b2, 0, none⟩) m g := by
  obtain ⟨h1, h2⟩ := h
  rw [ln] at h1
  rw [lm] at h2
  exact ⟨ln, lm, Reads.of_own h1, Reads.of_own h2⟩
theorem GReads.drew {w : World} {A B : Option Addr} {n m : Nat} {g : G} (h : GReads w A n B m g) : GReads w.drew A n B m g := ⟨h.ln, h.lm, h.rv, h.re⟩
/-- What the walk is told of a graph that came in. -/
def ArgGraph (w : World) (v : Value) : Prop :=
  ∃ (A B : Option Addr) (n c m d : Nat) (g : G), v = .agg #[.slice A n c, .slice B m d] ∧ GReads w A n B m g ∧ n ≤ 9223372036854775807 ∧ m ≤ 9223372036854775807 ∧ (∀ x ∈ g.vs, (Lit.int .i64 x).wf = true) ∧
    (∀ e ∈ g.es, (Lit.int .i64 e.id).wf = true ∧ (Lit.int .i64 e.fr).wf = true ∧ (Lit.int .i64 e.to).wf = true ∧ (Lit.int .i64 e.lb).wf = true)
end Go.Proofs.YtomkgnamjfiocaaGreatDoor
namespace Go.Proofs.YtomkgnamjfiocaaGreatDoor
open Go.RowKit Go.ChangeShapes Go.WideShapes Go.ChangeAt Go.Deep
set_option linter.unusedVariables false

section
variable {H : Type} {enc : TypeId × Value → H} {W : World} {base : Nat} {spare : Nat → Bool} {held : Bool}

theorem flatMap_len {α : Type} (f : α → List Value) (size : Nat) (hf : ∀ a, (f a).length = size) : ∀ l : List α, (l.flatMap f).length = l.length * size
  | [] => by simp
  | a :: l => by rw [List.flatMap_cons, List.length_append, hf, flatMap_len f size hf l, List.length_cons, Nat.add_mul]; omega
theorem flatMap_at {α : Type} (f : α → List Value) (size : Nat) (hf : ∀ a, (f a).length = size) : ∀ (l : List α) (k j : Nat) (hk : k < l.length) (hj : j < size), (l.flatMap f)[k * size + j]? = (f l[k])[j]?
  | a :: l, 0, j, hk, hj => by
    rw [List.flatMap_cons, List.getElem?_append_left (by rw [hf]; omega)]
    simp
  | a :: l, k + 1, j, hk, hj => by
    rw [List.flatMap_cons, List.getElem?_append_right (by rw [hf, Nat.add_mul]; omega), hf]
    have : (k + 1) * size + j - size = k * size + j := by rw [Nat.add_mul]; omega
    rw [this, flatMap_at f size hf l k j (by simpa using hk) hj]
    simp
theorem flatMap_ix {α : Type} (f : α → List Value) (size : Nat) (hs : 0 < size) (hf : ∀ a, (f a).length = size) (l : List α) (q : Nat) (hq : q < l.length * size) : ∃ hk : q / size < l.length, (l.flatMap f)[q]? = (f l[q / size])[q % size]? := by
  have hk : q / size < l.length := by rw [Nat.div_lt_iff_lt_mul hs]; exact hq
  refine ⟨hk, ?_⟩
  have h := flatMap_at f size hf l (q / size) (q % size) hk (Nat.mod_lt _ hs)
  rw [Nat.mul_comm, Nat.div_add_mod] at h
  exact h

/-- A slice that came in, its elements decoded one by one. -/
theorem argRow_of {α : Type} {P : Program} {t e : TypeId} {size : Nat} (f : α → List Value) (wfa : α → Prop) (hfl : ∀ a, (f a).length = size) (hs : 0 < size) (ht : P.underlying t = some (.slice e)) (hC : P.cellsOf e = size)
    (dec : ∀ (n : Nat) (cs : List Value) (y : DataW H × List MemPlace), DataW.trod enc P W base spare held n e cs = some y → ∃ a : α, cs = f a ∧ wfa a)
    {n0 : Nat} {v : Value} {x : DataW H × List MemPlace} (hf : DataW.trod enc P W base spare held n0 t [v] = some x) :
    ∃ (A : Option Addr) (n c : Nat) (xs : List α), v = .slice A n c ∧ xs.length = n ∧ n ≤ c ∧ c ≤ maxLen ∧ Reads W W.heap.size size A n (xs.flatMap f) ∧ ∀ a ∈ xs, wfa a := by
  rcases open_slice ht hf with ⟨hcs, _⟩ | ⟨a, len, cap, m, n, D, Pl, hcs, hb, hl, hm, hmm, hx, hi⟩
  · exact ⟨none, 0, 0, [], by simpa using hcs, rfl, Nat.le_refl _, Nat.zero_le _, Reads.none_, by simp⟩
  · have hv : v = .slice (some a) len cap := by simpa using hcs
    have hml : len ≤ m := by rw [hmm]; split <;> omega
    have key : ∀ i, ∃ y : Option α, i < len → ∃ a0, y = some a0 ∧ wfa a0 ∧ ∀ j, j < size → W.cell? (a.add (i * size + j)) = (f a0)[j]? := by
      intro i
      by_cases hil : i < len
      · obtain ⟨cs', hc, ht'⟩ := hi i (by omega)
        obtain ⟨a0, h1, h2⟩ := dec _ _ _ ht'
        rw [hC] at hc
        obtain ⟨_, hcl, hat⟩ := World.cells?_some hc
        refine ⟨some a0, fun _ => ⟨a0, rfl, h2, fun j hj => ?_⟩⟩
        have := hat j hj
        rw [add_of_add, h1] at this
        exact this
      · exact ⟨none, fun h => absurd h hil⟩
    obtain ⟨g, hg⟩ := Classical.axiomOfChoice key
    have key2 : ∀ q, q ≤ len → ∃ xs : List α, xs.length = q ∧ ∀ i, (hi : i < q) → g i = xs[i]? := by
      intro q
      induction q with
      | zero => intro _; exact ⟨[], rfl, fun i h => absurd h (by omega)⟩
      | succ q ih =>
        intro hq
        obtain ⟨xs, h1, h2⟩ := ih (by omega)
        obtain ⟨a0, h3, _⟩ := hg q (by omega)
        refine ⟨xs ++ [a0], by simp [h1], fun i hi => ?_⟩
        rcases Nat.lt_or_ge i q with h | h
        · rw [h2 i h, List.getElem?_append_left (by omega)]
        · obtain rfl : i = q := by omega
          rw [h3, List.getElem?_append_right (by omega), h1]
          simp
    obtain ⟨xs, hxl, hxg⟩ := key2 len (Nat.le_refl _)
    have at_ : ∀ i, (hi : i < len) → wfa (xs[i]'(by omega)) ∧ ∀ j, j < size → W.cell? (a.add (i * size + j)) = (f (xs[i]'(by omega)))[j]? := by
      intro i hi
      obtain ⟨a0, h1, h2, h3⟩ := hg i hi
      have h4 := hxg i hi
      rw [h1, List.getElem?_eq_getElem (by omega)] at h4
      have h5 : a0 = xs[i]'(by omega) := by simpa using h4
      rw [← h5]
      exact ⟨h2, h3⟩
    refine ⟨some a, len, cap, xs, hv, hxl, hl, hm, ⟨by rw [flatMap_len f size hfl, hxl], fun hn => ⟨a, rfl, ?_, fun q u hu => ?_⟩⟩, fun a0 ha0 => ?_⟩
    · have h := (at_ 0 hn).2 0 hs
      rw [List.getElem?_eq_getElem (by rw [hfl]; exact hs)] at h
      have := World.block_lt_of_cell? W _ h
      rwa [block_of_add] at this
    · have hq : q < xs.length * size := by
        have := (List.getElem?_eq_some_iff.1 hu).1
        rwa [flatMap_len f size hfl] at this
      obtain ⟨hk, h⟩ := flatMap_ix f size hs hfl xs q hq
      rw [h] at hu
      have h2 := (at_ (q / size) (by omega)).2 (q % size) (Nat.mod_lt _ hs)
      rw [hu, Nat.mul_comm, Nat.div_add_mod] at h2
      exact h2
    · obtain ⟨i, hi, rfl⟩ := List.mem_iff_getElem.1 ha0
      exact (at_ i (by omega)).1

def wfE (e : E) : Prop := (Lit.int .i64 e.id).wf = true ∧ (Lit.int .i64 e.fr).wf = true ∧ (Lit.int .i64 e.to).wf = true ∧ (Lit.int .i64 e.lb).wf = true
theorem ci_int : Tryz.prog.cellsOf 3 = 1 := by kernel_rfl
theorem flatMap_one (xs : List Int) : xs.flatMap (fun x => [iv x]) = xs.map iv := by
  induction xs with
  | nil => rfl
  | cons x xs ih => simp [List.flatMap_cons, ih]
theorem decI (n : Nat) (cs : List Value) (y : DataW H × List MemPlace) (h : DataW.trod enc Tryz.prog W base spare held n 3 cs = some y) : ∃ x : Int, cs = [iv x] ∧ (Lit.int .i64 x).wf = true := by
  obtain ⟨a, e0, _, w0⟩ := DataW.trod_int Tryz.underlying3 h
  exact ⟨a, e0, w0⟩
end
end Go.Proofs.YtomkgnamjfiocaaGreatDoor
namespace Go.Proofs.YtomkgnamjfiocaaGreatDoor
open Go.RowKit Go.ChangeShapes Go.WideShapes Go.ChangeAt Go.Deep
set_option linter.unusedVariables false

def ixN (es : List E) (i : Int) : Nat := es.findIdx (fun e => e.id == i)
def ixE (es : List E) (i : Int) : Int := if ixN es i < es.length then (ixN es i : Int) else -1
theorem ixN_le (es : List E) (i : Int) : ixN es i ≤ es.length := List.findIdx_le_length
theorem ix_step {es : List E} {i : Int} {k : Nat} {e : E} (he : es[k]? = some e) (h : k ≤ ixN es i) : (e.id = i → ixN es i = k) ∧ (¬ e.id = i → k + 1 ≤ ixN es i) := by
  obtain ⟨hk, hx⟩ := get_of_some he
  have hnot : ∀ j, (hj : j < ixN es i) → (hl : j < es.length) → ¬ (es[j]).id = i := fun j hj hl => by
    have := List.not_of_lt_findIdx (p := fun e : E => e.id == i) hj
    simpa using this
  constructor
  · intro hs
    rcases Nat.lt_or_ge k (ixN es i) with h2 | h2
    · exact absurd (by rw [hx]; exact hs) (hnot k h2 hk)
    · omega
  · intro hs
    rcases Nat.lt_or_ge k (ixN es i) with h2 | h2
    · omega
    · have he : ixN es i = k := by omega
      have hlt : List.findIdx (fun e : E => e.id == i) es < es.length := by
        show ixN es i < _
        omega
      have h3 := List.findIdx_getElem (w := hlt)
      have h4 : (es[ixN es i]'(by omega)).id = i := by
        have : (es[List.findIdx (fun e : E => e.id == i) es]).id == i := h3
        exact eq_of_beq this
      simp only [he, hx] at h4
      exact absurd h4 hs
set_option maxRecDepth 4000 in
set_option maxHeartbeats 800000 in
theorem specEdgeIx_any (A B : Option Addr) (n c m d : Nat) (es : List E) (i : Int) (w : World) (hl : es.length = m) (hm : m ≤ 2000000) (hr : Reads w w.heap.size 4 B m (ecs es)) :
    Calls Tryz.prog 89 #[.agg #[.slice A n c, .slice B m d], .int .i64 i] w fun e w' => e = .returned (.int .i64 (ixE es i)) ∧ Below w.heap.size w w' := by
  have hle := ixN_le es i
  go_enter Tryz.func89, Tryz.ntmps89
  go_wp2
  go_loop [5] (fun q => ∃ k : Nat, k ≤ m ∧ q = .int .i64 k ∧ k ≤ ixN es i) (fun q => m - (intOf q).toNat)
  case atStart => exact ⟨0, Nat.zero_le _, rfl, Nat.zero_le _⟩
  case round =>
    obtain ⟨k, hk, rfl, hix⟩ := hrel
    by_cases hlt : k < m
    · obtain ⟨b, o, rfl, had, e, he, c0, c1, c2, c3⟩ := edge_at hr hl hlt
      have hst := ix_step he hix
      clear he c1 c2 c3
      by_cases hh : e.id = i
      · have hE : ixE es i = (k : Int) := by unfold ixE; rw [hst.1 hh, if_pos (by omega)]
        have HE := Lib.hid hE
        have hq : (e.id == i) = true := by simpa using hh
        have HH := Lib.hid hh
        clear hE hh hst
        go_wp2
        go_ret
        exact ⟨by rw [HE.out] <;> rfl, (Below.refl _ _).alloc (Nat.le_refl _) _⟩
      · have HS := Lib.hid (hst.2 hh)
        have hq : (e.id == i) = false := by simpa using hh
        clear hst hh
        go_wp2
        go_round
        case rel => exact ⟨k + 1, by omega, by go_num, HS.out⟩
        case measure => simp [intOf]; omega
    · have hE : ixE es i = -1 := by unfold ixE; rw [if_neg (by omega)]
      have HE := Lib.hid hE
      clear hE
      go_wp2
      go_ret
      exact ⟨by rw [HE.out] <;> rfl, (Below.refl _ _).alloc (Nat.le_refl _) _⟩

set_option maxRecDepth 4000 in
theorem ixClosure_any (e : E) (i : Int) (b : Nat) (w : World) (hb : b < w.heap.size) (hc : w.cell? ⟨b, 0, none⟩ = some (.int .i64 i)) :
    Calls Tryz.prog 133 #[.agg #[.int .i64 e.id, .int .i64 e.fr, .int .i64 e.to, .int .i64 e.lb], .pointer (some ⟨b, 0, none⟩)] w fun r w' => r = .returned (.bool (e.id == i)) ∧ Below w.heap.size w w' := by
  obtain ⟨x, y, z, t⟩ := e
  have hne : b ≠ w.heap.size := by omega
  go_enter Tryz.func133, Tryz.ntmps133
  go_wp2
  go_ret
  exact ⟨rfl, (Below.refl _ _).alloc (Nat.le_refl _) _⟩
set_option maxRecDepth 4000 in
set_option maxHeartbeats 800000 in
theorem indexFunc_any (B : Option Addr) (m d : Nat) (es : List E) (i : Int) (b0 : Nat) (w : World) (hl : es.length = m) (hm : m ≤ 2000000) (hr : Reads w w.heap.size 4 B m (ecs es)) (hb : b0 < w.heap.size) (hc : w.cell? ⟨b0, 0, none⟩ = some (.int .i64 i)) :
    Calls Tryz.prog 132 #[.slice B m d, .func (Fn.func 133) #[] #[.pointer (some ⟨b0, 0, none⟩)]] w fun e w' => e = .returned (.int .i64 (ixE es i)) ∧ Below w.heap.size w w' := by
  have hle := ixN_le es i
  go_enter Tryz.func132, Tryz.ntmps132
  go_wp2
  go_loopw [8] (fun q wr => ∃ k : Nat, k ≤ m ∧ q = .int .i64 k ∧ k ≤ ixN es i ∧ Below w.heap.size w wr) (fun q _ => m - (intOf q).toNat)
  case atStart => exact ⟨0, Nat.zero_le _, rfl, Nat.zero_le _, Below.refl _ _⟩
  case round =>
    obtain ⟨k, hk, rfl, hix, hbel⟩ := hrel
    have hsz := hbel.size
    by_cases hlt : k < m
    · obtain ⟨b, o, rfl, had, e, he, c0, c1, c2, c3⟩ := edge_at (hr.below hbel) hl hlt
      have hst := ix_step he hix
      have hcr : wr.cell? ⟨b0, 0, none⟩ = some (.int .i64 i) := (hbel.cell (p := ⟨b0, 0, none⟩) hb).trans hc
      clear he
      by_cases hh : e.id = i
      · have hE : ixE es i = (k : Int) := by unfold ixE; rw [hst.1 hh, if_pos (by omega)]
        have HE := Lib.hid hE
        have hq : (e.id == i) = true := by simpa using hh
        clear hE hh hst
        go_wp2_with (go_at_call 133; refine (ixClosure_any e i b0 _ (by omega) hcr).mono ?_; rintro r w1 ⟨rfl, hb1⟩; rw [hq])
        go_ret
        exact ⟨by rw [HE.out] <;> rfl, hbel.trans (hb1.mono hbel.size)⟩
      · have HS := Lib.hid (hst.2 hh)
        have hq : (e.id == i) = false := by simpa using hh
        clear hst hh
        go_wp2_with (go_at_call 133; refine (ixClosure_any e i b0 _ (by omega) hcr).mono ?_; rintro r w1 ⟨rfl, hb1⟩; rw [hq])
        go_roundw
        case rel => exact ⟨k + 1, by omega, by go_num, HS.out, hbel.trans (hb1.mono hbel.size)⟩
        case measure => simp [intOf]; omega
    · have hE : ixE es i = -1 := by unfold ixE; rw [if_neg (by omega)]
      have HE := Lib.hid hE
      clear hE
      go_wp2
      go_ret
      exact ⟨by rw [HE.out] <;> rfl, hbel⟩
set_option maxRecDepth 4000 in
theorem implEdgeIx_any (A B : Option Addr) (n c m d : Nat) (es : List E) (i : Int) (w : World) (hl : es.length = m) (hm : m ≤ 2000000) (hr : Reads w w.heap.size 4 B m (ecs es)) :
    Calls Tryz.prog 107 #[.agg #[.slice A n c, .slice B m d], .int .i64 i] w fun e w' => e = .returned (.int .i64 (ixE es i)) ∧ Below w.heap.size w w' := by
  go_enter Tryz.func107, Tryz.ntmps107
  go_wp2_with fail
  have hB0 : Below w.heap.size w ((w.alloc (.cells #[.slice A n c, .slice B m d] 27)).alloc (.cells #[.int .i64 i] 3)) := ((Below.refl _ _).alloc (Nat.le_refl _) _).alloc (by simp) _
  refine (indexFunc_any B m d es i (w.heap.size + 1) _ hl hm (reads_up hr hB0) (by simp) (by go_simp)).mono ?_
  rintro e w1 ⟨rfl, hb1⟩
  go_wp2
  go_ret
  exact ⟨rfl, below_then hB0 hb1⟩
end Go.Proofs.YtomkgnamjfiocaaGreatDoor
namespace Go.Proofs.YtomkgnamjfiocaaGreatDoor
open Go.RowKit Go.ChangeShapes Go.WideShapes Go.ChangeAt Go.Deep
set_option linter.unusedVariables false

def okE (n : Int) (e : E) : Bool := inB e.id 1 99 && inB e.fr 0 (n - 1) && inB e.to 0 (n - 1) && inB e.lb 0 2
set_option maxRecDepth 4000 in
set_option maxHeartbeats 1600000 in
theorem edgeOk_any (e : E) (n : Int) (w : World) (h0 : 0 ≤ n) (hn : n ≤ 2000000) :
    Calls Tryz.prog 106 #[.agg #[.int .i64 e.id, .int .i64 e.fr, .int .i64 e.to, .int .i64 e.lb], .int .i64 n] w fun r w' => r = .returned (.bool (okE n e)) ∧ Below w.heap.size w w' := by
  obtain ⟨a, b, c, d⟩ := e
  have hE : okE n ⟨a, b, c, d⟩ = (inB a 1 99 && inB b 0 (n - 1) && inB c 0 (n - 1) && inB d 0 2) := rfl
  rw [hE]
  clear hE
  cases h1 : inB a 1 99
  · go_enter Tryz.func106, Tryz.ntmps106
    go_wp2_with (go_at_call 55; refine (within_any _ _ _ _).mono ?_; rintro e w' ⟨rfl, rfl⟩)
    go_ret
    exact ⟨rfl, (Below.refl _ _).alloc (Nat.le_refl _) _⟩
  · cases h2 : inB b 0 (n - 1)
    · go_enter Tryz.func106, Tryz.ntmps106
      go_wp2_with (go_at_call 55; refine (within_any _ _ _ _).mono ?_; rintro e w' ⟨rfl, rfl⟩)
      go_ret
      exact ⟨rfl, (Below.refl _ _).alloc (Nat.le_refl _) _⟩
    · cases h3 : inB c 0 (n - 1)
      · go_enter Tryz.func106, Tryz.ntmps106
        go_wp2_with (go_at_call 55; refine (within_any _ _ _ _).mono ?_; rintro e w' ⟨rfl, rfl⟩)
        go_ret
        exact ⟨rfl, (Below.refl _ _).alloc (Nat.le_refl _) _⟩
      · cases h4 : inB d 0 2
        all_goals
          go_enter Tryz.func106, Tryz.ntmps106
          go_wp2_with (go_at_call 55; refine (within_any _ _ _ _).mono ?_; rintro e w' ⟨rfl, rfl⟩)
          go_ret
          exact ⟨rfl, (Below.refl _ _).alloc (Nat.le_refl _) _⟩
set_option maxRecDepth 4000 in
set_option maxHeartbeats 1600000 in
theorem l3Edge_any (A B : Option Addr) (n c m d : Nat) (e : E) (w : World) (hn : n ≤ 2000000) :
    Calls Tryz.prog 111 #[.agg #[.slice A n c, .slice B m d], .agg #[.int .i64 e.id, .int .i64 e.fr, .int .i64 e.to, .int .i64 e.lb]] w fun r w' => r = .returned (.bool (okE n e)) ∧ Below w.heap.size w w' := by
  obtain ⟨a, b, c2, d2⟩ := e
  have hE : okE n ⟨a, b, c2, d2⟩ = (inB a 1 99 && inB b 0 ((n : Int) - 1) && inB c2 0 ((n : Int) - 1) && inB d2 0 2) := rfl
  rw [hE]
  clear hE
  cases h1 : inB a 1 99
  · go_enter Tryz.func111, Tryz.ntmps111
    go_wp2_with (go_at_call 88; refine (l1In_any _ _ _ _).mono ?_; rintro e w' ⟨rfl, rfl⟩)
    go_ret
    exact ⟨rfl, ((Below.refl _ _).alloc (Nat.le_refl _) _).alloc (by simp) _⟩
  · cases h2 : inB b 0 ((n : Int) - 1)
    · go_enter Tryz.func111, Tryz.ntmps111
      go_wp2_with (go_at_call 88; refine (l1In_any _ _ _ _).mono ?_; rintro e w' ⟨rfl, rfl⟩)
      go_ret
      exact ⟨rfl, ((Below.refl _ _).alloc (Nat.le_refl _) _).alloc (by simp) _⟩
    · cases h3 : inB c2 0 ((n : Int) - 1)
      · go_enter Tryz.func111, Tryz.ntmps111
        go_wp2_with (go_at_call 88; refine (l1In_any _ _ _ _).mono ?_; rintro e w' ⟨rfl, rfl⟩)
        go_ret
        exact ⟨rfl, ((Below.refl _ _).alloc (Nat.le_refl _) _).alloc (by simp) _⟩
      · cases h4 : inB d2 0 2
        all_goals
          go_enter Tryz.func111, Tryz.ntmps111
          go_wp2_with (go_at_call 88; refine (l1In_any _ _ _ _).mono ?_; rintro e w' ⟨rfl, rfl⟩)
          go_ret
          exact ⟨rfl, ((Below.refl _ _).alloc (Nat.le_refl _) _).alloc (by simp) _⟩

/-- Is edge k in order behind its forerunner? -/
def ordE (es : List E) (k : Nat) : Bool := match k with
  | 0 => true
  | k + 1 => match es[k]?, es[k + 1]? with
    | some a, some b => decide (a.id < b.id)
    | _, _ => true
def edgesB (n : Nat) (es : List E) (q : Nat) : Bool := (List.range q).all fun k => (match es[k]? with | some e => okE n e | none => true) && ordE es k
def validG (g : G) : Bool := g.vs.all (fun v => inB v 0 2) && edgesB g.vs.length g.es g.es.length && inB g.vs.length 1 5 && decide (g.es.length ≤ 12)
theorem edgesB_succ (n : Nat) (es : List E) (q : Nat) : edgesB n es (q + 1) = (edgesB n es q && ((match es[q]? with | some e => okE n e | none => true) && ordE es q)) := by
  unfold edgesB
  rw [List.range_succ, List.all_append]
  simp
theorem edgesB_false {n : Nat} {es : List E} {q m : Nat} (h : edgesB n es (q + 1) = false) (hq : q < m) : edgesB n es m = false := by
  unfold edgesB at *
  rw [List.all_eq_false] at *
  obtain ⟨x, hx, hf⟩ := h
  exact ⟨x, by rw [List.mem_range] at *; omega, hf⟩
set_option maxRecDepth 4000 in
set_option maxHeartbeats 4000000 in
theorem specValid_any (A B : Option Addr) (n c m d : Nat) (g : G) (w : World) (hg : GReads w A n B m g) (hn : n ≤ 2000000) (hm : m ≤ 2000000) :
    Calls Tryz.prog 67 #[.agg #[.slice A n c, .slice B m d]] w fun e w' => e = .returned (.bool (validG g)) ∧ Below w.heap.size w w' := by
  obtain ⟨ln, lm, rv, re⟩ := hg
  go_enter Tryz.func67, Tryz.ntmps67
  go_wp2
  go_loop [3] (fun i => ∃ k : Nat, k ≤ n ∧ i = .int .i64 k ∧ (g.vs.take k).all (fun v => inB v 0 2) = true) (fun i => n - (intOf i).toNat)
  case atStart => exact ⟨0, Nat.zero_le _, rfl, rfl⟩
  case round =>
    obtain ⟨k, hk, rfl, htk⟩ := hrel
    have HT := Lib.hid htk
    clear htk
    by_cases hlt : k < n
    · obtain ⟨ad, u, rfl, had, hu, hc⟩ := rv.at_ hlt
      have hv := iv_get hu (by omega)
      obtain ⟨x, hx⟩ : ∃ x, g.vs[k]'(by omega) = x := ⟨_, rfl⟩
      have HX := Lib.hid hx
      rw [hx] at hv
      subst hv
      unfold iv at hc
      have hc' := cell_al (.cells #[.slice (some ad) n c, .slice B m d] 27) hc
      clear hu hx hc
      cases hin : inB x 0 2
      · have hE : validG g = false := by
          simp only [validG, Bool.and_eq_false_iff]
          left; left; left
          rw [List.all_eq_false]
          exact ⟨x, by rw [← HX.out]; exact List.getElem_mem _, by simp [hin]⟩
        have HE := Lib.hid hE
        clear hE
        go_wp2_with (go_at_call 88; refine (l1In_any _ _ _ _).mono ?_; rintro e w' ⟨rfl, rfl⟩)
        go_ret
        exact ⟨by rw [HE.out] <;> rfl, (Below.refl _ _).alloc (Nat.le_refl _) _⟩
      · go_wp2_with (go_at_call 88; refine (l1In_any _ _ _ _).mono ?_; rintro e w' ⟨rfl, rfl⟩)
        go_round
        case rel => exact ⟨k + 1, by omega, by go_num, by rw [List.take_succ_eq_append_getElem (by omega), List.all_append, HT.out, HX.out]; simp [hin]⟩
        case measure => simp [intOf]; omega
    · obtain rfl : k = n := by omega
      have hvs := HT.out
      rw [List.take_of_length_le (by omega)] at hvs
      have HV := Lib.hid hvs
      clear hvs HT
      go_wp2
      have kA0 : (w.alloc (.cells #[.slice A k c, .slice B m d] 27)).cell? ⟨w.heap.size, 0, none⟩ = some (.slice A k c) := by go_simp
      have kB0 : (w.alloc (.cells #[.slice A k c, .slice B m d] 27)).cell? ⟨w.heap.size, 1, none⟩ = some (.slice B m d) := by go_simp
      have hB0 : Below w.heap.size w (w.alloc (.cells #[.slice A k c, .slice B m d] 27)) := (Below.refl _ _).alloc (Nat.le_refl _) _
      have reE := reads_up re hB0
      clear re rv hk hlt
      generalize w.alloc (.cells #[.slice A k c, .slice B m d] 27) = W0 at *
      go_loopw [4] (fun i wr => ∃ q : Nat, q ≤ m ∧ i = .int .i64 q ∧ edgesB k g.es q = true ∧ Below W0.heap.size W0 wr) (fun i _ => m - (intOf i).toNat)
      case atStart => exact ⟨0, Nat.zero_le _, rfl, rfl, Below.refl _ _⟩
      case round =>
        obtain ⟨q, hq, rfl, heq, hbel⟩ := hrel
        have HQ := Lib.hid heq
        clear heq
        have kA1 := cell_keep hbel kA0
        have kB1 := cell_keep hbel kB0
        have reR := reads_up reE hbel
        by_cases hlt : q < m
        · obtain ⟨b, o, rfl, had, e, he, c0, c1, c2, c3⟩ := edge_at reR lm hlt
          have hlt' : (q : Int) < m := by omega
          have hq0 : (0 : Int) ≤ (q : Int) := by omega
          have HE := Lib.hid he
          clear he
          cases hok : okE k e
          · have hE : edgesB k g.es (q + 1) = false := by rw [edgesB_succ, HE.out]; simp [hok]
            have hV : validG g = false := by
              simp only [validG, Bool.and_eq_false_iff]
              left; left; right
              rw [ln, lm]
              exact edgesB_false hE hlt
            have HV2 := Lib.hid hV
            clear hE hV
            have xA := Kept.cell kA1
            have xB := Kept.cell kB1
            have x0 := Kept.cell c0
            have x1 := Kept.cell c1
            have x2 := Kept.cell c2
            have x3 := Kept.cell c3
            have hcall : ∀ W, Calls Tryz.prog 111 #[.agg #[.slice A k c, .slice (some ⟨b, o, none⟩) m d], .agg #[.int .i64 e.id, .int .i64 e.fr, .int .i64 e.to, .int .i64 e.lb]] W fun r w' => r = .returned (.bool false) ∧ Below W.heap.size W w' := fun W => by
              have h := l3Edge_any A (some ⟨b, o, none⟩) k c m d e W hn
              rw [hok] at h
              exact h
            have HC := Lib.hid hcall
            clear hcall
            go_wp2
            refine wp_region_kept (by kernel_rfl) (by kernel_rfl) ?_
            repeat (go_big_quiet_step ((go_at_call 111; exact Calls.kept (HC.out _))))
            refine wpQuiet_nil ?_
            intro _ hw'
            obtain ⟨xw, rfl⟩ := hw'
            have hxb := xw.be
            go_wp2
            go_ret
            exact ⟨by rw [HV2.out] <;> rfl, below_then (below_then hB0 hbel) hxb⟩
          · rcases Nat.lt_or_ge 0 q with hp | hz
            rotate_left
            · have hd0 : decide (0 < q) = false := by simp; omega
              have HZ := Lib.hid (show q = 0 by omega)
              have xA := Kept.cell kA1
              have xB := Kept.cell kB1
              have x0 := Kept.cell c0
              have x1 := Kept.cell c1
              have x2 := Kept.cell c2
              have x3 := Kept.cell c3
              have hcall : ∀ W, Calls Tryz.prog 111 #[.agg #[.slice A k c, .slice (some ⟨b, o, none⟩) m d], .agg #[.int .i64 e.id, .int .i64 e.fr, .int .i64 e.to, .int .i64 e.lb]] W fun r w' => r = .returned (.bool true) ∧ Below W.heap.size W w' := fun W => by
                have h := l3Edge_any A (some ⟨b, o, none⟩) k c m d e W hn
                rw [hok] at h
                exact h
              have HC := Lib.hid hcall
              clear hcall
              go_wp2
              refine wp_region_kept (by kernel_rfl) (by kernel_rfl) ?_
              repeat (go_big_quiet_step ((go_at_call 111; exact Calls.kept (HC.out _))))
              refine wpQuiet_nil ?_
              intro _ hw'
              obtain ⟨xw, rfl⟩ := hw'
              have hxb := xw.be
              go_wp2
              go_roundw
              case rel => exact ⟨q + 1, by omega, by go_num, by rw [edgesB_succ, HE.out, HQ.out, HZ.out]; simp [hok, ordE], below_then hbel hxb⟩
              case measure => simp [intOf]; omega
            · obtain ⟨b9, o9, hb9, _, e9, he9, p0, _, _, _⟩ := edge_at (k := q - 1) reR lm (by omega)
              have hbo : b = b9 ∧ o = o9 := by simpa using hb9
              obtain ⟨rfl, rfl⟩ := hbo
              clear hb9
              have hord : ordE g.es q = decide (e9.id < e.id) := by
                obtain ⟨p, rfl⟩ : ∃ p, q = p + 1 := ⟨q - 1, by omega⟩
                have h9 : g.es[p]? = some e9 := he9
                simp only [ordE, h9, HE.out]
              have HO := Lib.hid hord
              clear hord he9
              have xp := Kept.cell p0
              have xA := Kept.cell kA1
              have xB := Kept.cell kB1
              have x0 := Kept.cell c0
              have x1 := Kept.cell c1
              have x2 := Kept.cell c2
              have x3 := Kept.cell c3
              have hcall : ∀ W, Calls Tryz.prog 111 #[.agg #[.slice A k c, .slice (some ⟨b, o, none⟩) m d], .agg #[.int .i64 e.id, .int .i64 e.fr, .int .i64 e.to, .int .i64 e.lb]] W fun r w' => r = .returned (.bool true) ∧ Below W.heap.size W w' := fun W => by
                have h := l3Edge_any A (some ⟨b, o, none⟩) k c m d e W hn
                rw [hok] at h
                exact h
              have HC := Lib.hid hcall
              clear hcall
              have s2 : (0 : Int) ≤ (q : Int) - 1 := by omega
              have s3 : (q : Int) - 1 < (m : Int) := by omega
              have s5 : decide (0 < q) = true := by simp; omega
              by_cases hge : e.id ≤ e9.id
              · have hE : edgesB k g.es (q + 1) = false := by rw [edgesB_succ, HE.out, HO.out]; simp [hge]
                have hV : validG g = false := by
                  simp only [validG, Bool.and_eq_false_iff]
                  left; left; right
                  rw [ln, lm]
                  exact edgesB_false hE hlt
                have HV2 := Lib.hid hV
                clear hE hV
                go_wp2
                refine wp_region_kept (by kernel_rfl) (by kernel_rfl) ?_
                repeat (go_big_quiet_step ((go_at_call 111; exact Calls.kept (HC.out _))))
                refine wpQuiet_nil ?_
                intro _ hw'
                obtain ⟨xw, rfl⟩ := hw'
                have hxb := xw.be
                go_wp2
                go_ret
                exact ⟨by rw [HV2.out] <;> rfl, below_then (below_then hB0 hbel) hxb⟩
              · have hge2 : e9.id < e.id := by omega
                have HG : Hid (edgesB k g.es (q + 1) = true) := by
                  apply Lib.hid
                  rw [edgesB_succ, HE.out, HO.out, HQ.out]
                  simp [hge2, hok]
                go_wp2
                refine wp_region_kept (by kernel_rfl) (by kernel_rfl) ?_
                repeat (go_big_quiet_step ((go_at_call 111; exact Calls.kept (HC.out _))))
                refine wpQuiet_nil ?_
                intro _ hw'
                obtain ⟨xw, rfl⟩ := hw'
                have hxb := xw.be
                go_wp2
                go_roundw
                case rel => exact ⟨q + 1, by omega, by go_num, HG.out, below_then hbel hxb⟩
                case measure => simp [intOf]; omega
        · obtain rfl : q = m := by omega
          have hV : validG g = (inB k 1 5 && decide (q ≤ 12)) := by
            unfold validG
            rw [HV.out, ln, lm, HQ.out]
            simp
          have HV2 := Lib.hid hV
          clear hV
          cases hin : inB k 1 5
          all_goals
            go_wp2_with (go_at_call 88; refine (l1In_any _ _ _ _).mono ?_; rintro e w' ⟨rfl, rfl⟩)
            go_ret
            exact ⟨by rw [HV2.out, hin]; first | rfl | (simp; omega) | simp, below_then hB0 hbel⟩
end Go.Proofs.YtomkgnamjfiocaaGreatDoor
namespace Go.Proofs.YtomkgnamjfiocaaGreatDoor
open Go.RowKit Go.ChangeShapes Go.WideShapes Go.ChangeAt Go.Deep
set_option linter.unusedVariables false
set_option maxRecDepth 4000 in
set_option maxHeartbeats 4000000 in
theorem implValid_any (A B : Option Addr) (n c m d : Nat) (g : G) (w : World) (hg : GReads w A n B m g) (hn : n ≤ 2000000) (hm : m ≤ 2000000) :
    Calls Tryz.prog 63 #[.agg #[.slice A n c, .slice B m d]] w fun e w' => e = .returned (.bool (validG g)) ∧ Below w.heap.size w w' := by
  obtain ⟨ln, lm, rv, re⟩ := hg
  go_enter Tryz.func63, Tryz.ntmps63
  go_wp2
  go_loop [14] (fun i => ∃ k : Nat, k ≤ n ∧ i = .int .i64 k ∧ (g.vs.take k).all (fun v => inB v 0 2) = true) (fun i => n - (intOf i).toNat)
  case atStart => exact ⟨0, Nat.zero_le _, rfl, rfl⟩
  case round =>
    obtain ⟨k, hk, rfl, htk⟩ := hrel
    have HT := Lib.hid htk
    clear htk
    by_cases hlt : k < n
    · obtain ⟨ad, u, rfl, had, hu, hc⟩ := rv.at_ hlt
      have hv := iv_get hu (by omega)
      obtain ⟨x, hx⟩ : ∃ x, g.vs[k]'(by omega) = x := ⟨_, rfl⟩
      have HX := Lib.hid hx
      rw [hx] at hv
      subst hv
      unfold iv at hc
      have hc' := cell_al (.cells #[.slice (some ad) n c, .slice B m d] 27) hc
      clear hu hx hc
      cases hin : inB x 0 2
      · have hE : validG g = false := by
          simp only [validG, Bool.and_eq_false_iff]
          left; left; left
          rw [List.all_eq_false]
          exact ⟨x, by rw [← HX.out]; exact List.getElem_mem _, by simp [hin]⟩
        have HE := Lib.hid hE
        clear hE
        go_wp2_with (go_at_call 55; refine (within_any _ _ _ _).mono ?_; rintro e w' ⟨rfl, rfl⟩)
        go_ret
        exact ⟨by rw [HE.out] <;> rfl, (Below.refl _ _).alloc (Nat.le_refl _) _⟩
      · go_wp2_with (go_at_call 55; refine (within_any _ _ _ _).mono ?_; rintro e w' ⟨rfl, rfl⟩)
        go_round
        case rel => exact ⟨k + 1, by omega, by go_num, by rw [List.take_succ_eq_append_getElem (by omega), List.all_append, HT.out, HX.out]; simp [hin]⟩
        case measure => simp [intOf]; omega
    · obtain rfl : k = n := by omega
      have hvs := HT.out
      rw [List.take_of_length_le (by omega)] at hvs
      have HV := Lib.hid hvs
      clear hvs HT
      go_wp2
      have kA0 : (w.alloc (.cells #[.slice A k c, .slice B m d] 27)).cell? ⟨w.heap.size, 0, none⟩ = some (.slice A k c) := by go_simp
      have kB0 : (w.alloc (.cells #[.slice A k c, .slice B m d] 27)).cell? ⟨w.heap.size, 1, none⟩ = some (.slice B m d) := by go_simp
      have hB0 : Below w.heap.size w (w.alloc (.cells #[.slice A k c, .slice B m d] 27)) := (Below.refl _ _).alloc (Nat.le_refl _) _
      have reE := reads_up re hB0
      have hsz0 : w.heap.size < (w.alloc (.cells #[.slice A k c, .slice B m d] 27)).heap.size := by simp
      clear re rv hk hlt
      generalize w.alloc (.cells #[.slice A k c, .slice B m d] 27) = W0 at *
      go_loopw [25] (fun i wr => ∃ q : Nat, q ≤ m ∧ i = .int .i64 q ∧ edgesB k g.es q = true ∧ Below W0.heap.size W0 wr) (fun i _ => m - (intOf i).toNat)
      case atStart => exact ⟨0, Nat.zero_le _, rfl, rfl, Below.refl _ _⟩
      case round =>
        obtain ⟨q, hq, rfl, heq, hbel⟩ := hrel
        have HQ := Lib.hid heq
        clear heq
        have kA1 := cell_keep hbel kA0
        have kB1 := cell_keep hbel kB0
        have reR := reads_up reE hbel
        by_cases hlt : q < m
        · obtain ⟨b, o, rfl, had, e, he, c0, c1, c2, c3⟩ := edge_at reR lm hlt
          have hlt' : (q : Int) < m := by omega
          have hq0 : (0 : Int) ≤ (q : Int) := by omega
          have hne : b ≠ wr.heap.size := by omega
          have HE := Lib.hid he
          clear he
          go_wp2_with fail
          have yA := cell_al (.cells #[.int .i64 e.id, .int .i64 e.fr, .int .i64 e.to, .int .i64 e.lb] 90) kA1
          have yB := cell_al (.cells #[.int .i64 e.id, .int .i64 e.fr, .int .i64 e.to, .int .i64 e.lb] 90) kB1
          have y0 : (wr.alloc (.cells #[.int .i64 e.id, .int .i64 e.fr, .int .i64 e.to, .int .i64 e.lb] 90)).cell? ⟨wr.heap.size, 0, none⟩ = some (.int .i64 e.id) := by go_simp
          have y1 : (wr.alloc (.cells #[.int .i64 e.id, .int .i64 e.fr, .int .i64 e.to, .int .i64 e.lb] 90)).cell? ⟨wr.heap.size, 1, none⟩ = some (.int .i64 e.fr) := by go_simp
          have y2 : (wr.alloc (.cells #[.int .i64 e.id, .int .i64 e.fr, .int .i64 e.to, .int .i64 e.lb] 90)).cell? ⟨wr.heap.size, 2, none⟩ = some (.int .i64 e.to) := by go_simp
          have y3 : (wr.alloc (.cells #[.int .i64 e.id, .int .i64 e.fr, .int .i64 e.to, .int .i64 e.lb] 90)).cell? ⟨wr.heap.size, 3, none⟩ = some (.int .i64 e.lb) := by go_simp
          have hB1 := below_then hB0 (hbel.alloc hbel.size (.cells #[.int .i64 e.id, .int .i64 e.fr, .int .i64 e.to, .int .i64 e.lb] 90))
          have hB2 := hbel.alloc hbel.size (.cells #[.int .i64 e.id, .int .i64 e.fr, .int .i64 e.to, .int .i64 e.lb] 90)
          have reW := reads_up reE hB2
          have hcall : ∀ W, Calls Tryz.prog 106 #[.agg #[.int .i64 e.id, .int .i64 e.fr, .int .i64 e.to, .int .i64 e.lb], .int .i64 k] W fun r w' => r = .returned (.bool (okE k e)) ∧ Below W.heap.size W w' := fun W => edgeOk_any e k W (by omega) (by omega)
          have HC1 := Lib.hid hcall
          clear hcall c0 c1 c2 c3
          generalize (wr.alloc (.cells #[.int .i64 e.id, .int .i64 e.fr, .int .i64 e.to, .int .i64 e.lb] 90)) = W1 at *
          have xA := Kept.cell yA
          have xB := Kept.cell yB
          have x0 := Kept.cell y0
          have x1 := Kept.cell y1
          have x2 := Kept.cell y2
          have x3 := Kept.cell y3
          cases hok : okE k e
          · have hE : edgesB k g.es (q + 1) = false := by rw [edgesB_succ, HE.out]; simp [hok]
            have hV : validG g = false := by
              simp only [validG, Bool.and_eq_false_iff]
              left; left; right
              rw [ln, lm]
              exact edgesB_false hE hlt
            have HV2 := Lib.hid hV
            have HC : Hid (∀ W, Calls Tryz.prog 106 #[.agg #[.int .i64 e.id, .int .i64 e.fr, .int .i64 e.to, .int .i64 e.lb], .int .i64 k] W fun r w' => r = .returned (.bool false) ∧ Below W.heap.size W w') := Lib.hid (by rw [← hok]; exact HC1.out)
            clear hE hV HC1
            refine wp_region_kept (by kernel_rfl) (by kernel_rfl) ?_
            repeat (go_big_quiet_step ((go_at_call 106; exact Calls.kept (HC.out _))))
            refine wpQuiet_nil ?_
            intro _ hw'
            obtain ⟨xw, rfl⟩ := hw'
            have hxb := xw.be
            go_wp2
            go_ret
            exact ⟨by rw [HV2.out] <;> rfl, below_then hB1 hxb⟩
          · have HC : Hid (∀ W, Calls Tryz.prog 106 #[.agg #[.int .i64 e.id, .int .i64 e.fr, .int .i64 e.to, .int .i64 e.lb], .int .i64 k] W fun r w' => r = .returned (.bool true) ∧ Below W.heap.size W w') := Lib.hid (by rw [← hok]; exact HC1.out)
            clear HC1
            rcases Nat.lt_or_ge 0 q with hp | hz
            rotate_left
            · have hd0 : decide (0 < q) = false := by simp; omega
              have HZ := Lib.hid (show q = 0 by omega)
              refine wp_region_kept (by kernel_rfl) (by kernel_rfl) ?_
              repeat (go_big_quiet_step ((go_at_call 106; exact Calls.kept (HC.out _))))
              refine wpQuiet_nil ?_
              intro _ hw'
              obtain ⟨xw, rfl⟩ := hw'
              have hxb := xw.be
              go_wp2
              go_roundw
              case rel => exact ⟨q + 1, by omega, by go_num, by rw [edgesB_succ, HE.out, HQ.out, HZ.out]; simp [hok, ordE], below_then hB2 hxb⟩
              case measure => simp [intOf]; omega
            · obtain ⟨b9, o9, hb9, _, e9, he9, p0, _, _, _⟩ := edge_at (k := q - 1) reW lm (by omega)
              have hbo : b = b9 ∧ o = o9 := by simpa using hb9
              obtain ⟨rfl, rfl⟩ := hbo
              clear hb9
              have hord : ordE g.es q = decide (e9.id < e.id) := by
                obtain ⟨p, rfl⟩ : ∃ p, q = p + 1 := ⟨q - 1, by omega⟩
                have h9 : g.es[p]? = some e9 := he9
                simp only [ordE, h9, HE.out]
              have HO := Lib.hid hord
              clear hord he9
              have xp := Kept.cell p0
              have s2 : (0 : Int) ≤ (q : Int) - 1 := by omega
              have s3 : (q : Int) - 1 < (m : Int) := by omega
              have s5 : decide (0 < q) = true := by simp; omega
              by_cases hge : e.id ≤ e9.id
              · have hE : edgesB k g.es (q + 1) = false := by rw [edgesB_succ, HE.out, HO.out]; simp [hge]
                have hV : validG g = false := by
                  simp only [validG, Bool.and_eq_false_iff]
                  left; left; right
                  rw [ln, lm]
                  exact edgesB_false hE hlt
                have HV2 := Lib.hid hV
                clear hE hV
                refine wp_region_kept (by kernel_rfl) (by kernel_rfl) ?_
                repeat (go_big_quiet_step ((go_at_call 106; exact Calls.kept (HC.out _))))
                refine wpQuiet_nil ?_
                intro _ hw'
                obtain ⟨xw, rfl⟩ := hw'
                have hxb := xw.be
                go_wp2
                go_ret
                exact ⟨by rw [HV2.out] <;> rfl, below_then hB1 hxb⟩
              · have hge2 : e9.id < e.id := by omega
                have HG : Hid (edgesB k g.es (q + 1) = true) := by
                  apply Lib.hid
                  rw [edgesB_succ, HE.out, HO.out, HQ.out]
                  simp [hge2, hok]
                refine wp_region_kept (by kernel_rfl) (by kernel_rfl) ?_
                repeat (go_big_quiet_step ((go_at_call 106; exact Calls.kept (HC.out _))))
                refine wpQuiet_nil ?_
                intro _ hw'
                obtain ⟨xw, rfl⟩ := hw'
                have hxb := xw.be
                go_wp2
                go_roundw
                case rel => exact ⟨q + 1, by omega, by go_num, HG.out, below_then hB2 hxb⟩
                case measure => simp [intOf]; omega
        · obtain rfl : q = m := by omega
          have hV : validG g = (inB k 1 5 && decide (q ≤ 12)) := by
            unfold validG
            rw [HV.out, ln, lm, HQ.out]
            simp
          have HV2 := Lib.hid hV
          clear hV
          cases hin : inB k 1 5
          all_goals
            go_wp2_with (go_at_call 55; refine (within_any _ _ _ _).mono ?_; rintro e w' ⟨rfl, rfl⟩)
            go_ret
            exact ⟨by rw [HV2.out, hin]; first | rfl | (simp; omega) | simp, below_then hB0 hbel⟩
end Go.Proofs.YtomkgnamjfiocaaGreatDoor
namespace Go.Proofs.YtomkgnamjfiocaaGreatDoor
open Go.RowKit Go.ChangeShapes Go.WideShapes Go.ChangeAt Go.Deep
set_option linter.unusedVariables false

/-- The numbers that mark n cells, from k on. -/
def marks (k n : Nat) : List Int := (List.range n).map fun i => ((k + i : Nat) : Int)
theorem marks_len (k n : Nat) : (marks k n).length = n := by simp [marks]
theorem marks_at (k n i : Nat) (h : i < n) : (marks k n)[i]'(by rw [marks_len]; exact h) = ((k + i : Nat) : Int) := by simp [marks]
theorem ownBlock_some {w : World} {base : Nat} {e : TypeId} {size n : Nat} {v : Value} {xs : List Value} (h : w.ownsRow base e size v n xs) {g : Nat} (hg : v.ownBlock = some g) : base ≤ g ∧ g < w.heap.size := by
  rcases h.2 with ⟨rfl, rfl⟩ | ⟨g', cap, cur, rfl, hb1, hgg, rest⟩
  · simp [Value.ownBlock] at hg
  · have hlt := (Array.getElem?_eq_some_iff.1 hgg).1
    simp [Value.ownBlock] at hg
    omega
/-- An owned row, seen in a world where its block is as it was. -/
theorem own_same {w w' : World} {base : Nat} {e : TypeId} {size n : Nat} {v : Value} {xs : List Value} (h : w.ownsRow base e size v n xs) (hb : ∀ g, v.ownBlock = some g → w'.heap[g]? = w.heap[g]?) : w'.ownsRow base e size v n xs := by
  refine ⟨h.1, ?_⟩
  rcases h.2 with hn | ⟨g, cap, cur, rfl, hb1, hgg, rest⟩
  · exact .inl hn
  · exact .inr ⟨g, cap, cur, rfl, hb1, by rw [hb g (by simp [Value.ownBlock])]; exact hgg, rest⟩
theorem own_some1 {w : World} {base g n cap size : Nat} {e : TypeId} {xs : List Value} (h : w.ownsRow base e size (.slice (some ⟨g, 0, none⟩) n cap) n xs) (j : Nat) (hj : j < n * size) : ∃ z, w.cell? ⟨g, j, none⟩ = some z := by
  have hl := h.1
  exact ⟨xs[j]'(by omega), by rw [h.cellAt j hj, List.getElem?_eq_getElem]⟩
theorem grown_refl (w : World) (row : Option Nat) : w.grownBy w row := ⟨rfl, rfl, rfl, Nat.le_refl _, fun _ _ _ => rfl⟩
end Go.Proofs.YtomkgnamjfiocaaGreatDoor
namespace Go.Proofs.YtomkgnamjfiocaaGreatDoor
open Go.RowKit Go.ChangeShapes Go.WideShapes Go.ChangeAt Go.Deep
set_option linter.unusedVariables false

/-- A row of the call's own whose block lies in [lo, hi). -/
structure OwnIn (w : World) (lo hi : Nat) (e : TypeId) (size : Nat) (v : Value) (n : Nat) (xs : List Value) : Prop where
  row : w.ownsRow lo e size v n xs
  top : ∀ g, v.ownBlock = some g → g < hi
/-- Only blocks of [lo, hi) differ; new ones may lie behind. -/
structure Tch (lo hi : Nat) (w w' : World) : Prop where
  os : w'.os = w.os
  tape : w'.tape = w.tape
  output : w'.output = w.output
  size : w.heap.size ≤ w'.heap.size
  block : ∀ k, k < w.heap.size → (k < lo ∨ hi ≤ k) → w'.heap[k]? = w.heap[k]?
section
variable {w w' w'' W : World} {lo hi a b base B : Nat} {e : TypeId} {size n : Nat} {v : Value} {xs : List Value}
theorem OwnIn.of (h : w.ownsRow lo e size v n xs) : OwnIn w lo w.heap.size e size v n xs := ⟨h, fun g hg => (ownBlock_some h hg).2⟩
theorem Tch.of_grown (h : w.grownBy w' v.ownBlock) (own : OwnIn w lo hi e size v n xs) : Tch lo hi w w' :=
  ⟨h.os, h.tape, h.output, h.size, fun k hk hd => h.block k hk fun hh => by
    have h1 := (ownBlock_some own.row hh.symm).1
    have h2 := own.top k hh.symm
    omega⟩
theorem Tch.of_below (h : Below w.heap.size w w') : Tch lo hi w w' := ⟨h.os, h.tape, h.output, h.size, fun k hk _ => h.block k hk⟩
theorem Tch.trans (h : Tch lo hi w w') (k : Tch lo hi w' w'') : Tch lo hi w w'' :=
  ⟨k.os.trans h.os, k.tape.trans h.tape, k.output.trans h.output, Nat.le_trans h.size k.size, fun i hi hd => (k.block i (Nat.lt_of_lt_of_le hi h.size) hd).trans (h.block i hi hd)⟩
theorem Tch.wide (h : Tch lo hi w w') (h1 : a ≤ lo) (h2 : hi ≤ b) : Tch a b w w' := ⟨h.os, h.tape, h.output, h.size, fun i hi hd => h.block i hi (by omega)⟩
theorem below_tch (h : Below W.heap.size W w) (t : Tch lo hi w w') (hB : W.heap.size ≤ lo) : Below W.heap.size W w' :=
  ⟨t.os.trans h.os, t.tape.trans h.tape, t.output.trans h.output, Nat.le_trans h.size t.size, fun k hk => (t.block k (Nat.lt_of_lt_of_le hk h.size) (.inl (Nat.lt_of_lt_of_le hk hB))).trans (h.block k hk)⟩
theorem OwnIn.tch (h : OwnIn w a b e size v n xs) (t : Tch lo hi w w') (hd : b ≤ lo ∨ hi ≤ a) : OwnIn w' a b e size v n xs :=
  ⟨own_same h.row fun g hg => t.block g (ownBlock_some h.row hg).2 (by have := (ownBlock_some h.row hg).1; have := h.top g hg; omega), h.top⟩
theorem OwnIn.below (h : OwnIn w a b e size v n xs) (hb : Below w.heap.size w w') : OwnIn w' a b e size v n xs :=
  ⟨own_same h.row fun g hg => hb.block g (ownBlock_some h.row hg).2, h.top⟩
theorem OwnIn.reads {A : Option Addr} {c : Nat} (h : OwnIn w a b e size (.slice A n c) n xs) : Reads w w.heap.size size A n xs := Reads.of_own h.row
theorem OwnIn.form (h : OwnIn w a b e size v n xs) : ∃ A c, v = .slice A n c := by
  obtain ⟨A, c, h1, _⟩ := own_form h.row
  exact ⟨A, c, h1⟩
theorem cell_tch {p : Addr} {u : Value} (t : Tch lo hi w w') (h : w.cell? p = some u) (hd : p.block < lo ∨ hi ≤ p.block) : w'.cell? p = some u := by
  have hlt := World.block_lt_of_cell? w p h
  have hb := t.block p.block hlt hd
  rw [← h]
  unfold World.cell?
  rw [hb]
end
end Go.Proofs.YtomkgnamjfiocaaGreatDoor
namespace Go.Proofs.YtomkgnamjfiocaaGreatDoor
open Go.RowKit Go.ChangeShapes Go.WideShapes Go.ChangeAt Go.Deep
set_option linter.unusedVariables false

def cmpI (a b : Int) : Int := if a < b then -1 else if b < a then 1 else 0
def cmpL : List Int → List Int → Int
  | [], [] => 0
  | [], _ :: _ => -1
  | _ :: _, [] => 1
  | x :: xs, y :: ys => if x < y then -1 else if y < x then 1 else cmpL xs ys
def cmpW (xs ys : List Int) : Int := if xs.length < ys.length then -1 else if ys.length < xs.length then 1 else cmpL xs ys
theorem cmpL_drop {xs ys : List Int} {k : Nat} (h1 : k < xs.length) (h2 : k < ys.length) : cmpL (xs.drop k) (ys.drop k) = if xs[k] < ys[k] then -1 else if ys[k] < xs[k] then 1 else cmpL (xs.drop (k + 1)) (ys.drop (k + 1)) := by
  rw [List.drop_eq_getElem_cons h1, List.drop_eq_getElem_cons h2]
  rfl
theorem cmpL_end {xs ys : List Int} {k : Nat} (h1 : xs.length ≤ k) (h2 : ys.length ≤ k) : cmpL (xs.drop k) (ys.drop k) = 0 := by
  rw [List.drop_of_length_le h1, List.drop_of_length_le h2]
  rfl
set_option maxRecDepth 4000 in
theorem isNaN_any (a : Int) (w : World) : Calls Tryz.prog 170 #[.int .i64 a] w fun e w' => e = .returned (.bool false) ∧ w = w' := by
  have hne : (a != a) = false := by simp
  go_enter Tryz.func170, Tryz.ntmps170
  go_wp2
  go_ret
  exact ⟨rfl, rfl⟩
set_option maxRecDepth 4000 in
set_option maxHeartbeats 1000000 in
theorem l2Cmp_any (A B : Option Addr) (n c d : Nat) (xs ys : List Int) (w : World) (hl : xs.length = n) (hl2 : ys.length = n) (hn : n ≤ 2000000) (hr : Reads w w.heap.size 1 A n (xs.map iv)) (hr2 : Reads w w.heap.size 1 B n (ys.map iv)) :
    Calls Tryz.prog 77 #[.slice A n c, .slice B n d] w fun e w' => e = .returned (.int .i64 (cmpL xs ys)) ∧ Below w.heap.size w w' := by
  go_enter Tryz.func77, Tryz.ntmps77
  go_wp2
  go_loopw [5] (fun i wr => ∃ k : Nat, k ≤ n ∧ i = .int .i64 k ∧ cmpL (xs.drop k) (ys.drop k) = cmpL xs ys ∧ ∃ q, wr = w.drewN q) (fun i _ => n - (intOf i).toNat)
  case atStart => exact ⟨0, Nat.zero_le _, rfl, rfl, 0, rfl⟩
  case round =>
    obtain ⟨k, hk, rfl, htk, q, rfl⟩ := hrel
    have HT := Lib.hid htk
    clear htk
    by_cases hlt : k < n
    · obtain ⟨ad, u, rfl, had, hu, hc⟩ := hr.at_ hlt
      obtain ⟨bd, u2, rfl, hbd, hu2, hc2⟩ := hr2.at_ hlt
      have hv := iv_get hu (by omega)
      have hv2 := iv_get hu2 (by omega)
      have hD := cmpL_drop (xs := xs) (ys := ys) (k := k) (by omega) (by omega)
      obtain ⟨x, hx⟩ : ∃ x, xs[k]'(by omega) = x := ⟨_, rfl⟩
      obtain ⟨y, hy⟩ : ∃ y, ys[k]'(by omega) = y := ⟨_, rfl⟩
      rw [hx, hy, HT.out] at hD
      rw [hx] at hv
      rw [hy] at hv2
      have HD := Lib.hid hD
      subst hv
      subst hv2
      unfold iv at hc hc2
      have hlt' : (k : Int) < n := by omega
      clear hu hu2 hx hy HT hD
      rcases Int.lt_trichotomy x y with h | h | h
      · have hE : cmpL xs ys = -1 := by rw [HD.out, if_pos h]
        have HE := Lib.hid hE
        have h1 : decide (x < y) = true := by simpa using h
        clear HD hE
        go_wp2
        go_quiet (fail)
        go_wp2
        go_ret
        exact ⟨by rw [HE.out] <;> rfl, by repeat (first | exact Below.refl _ _ | refine below_drewN ?_ _)⟩
      · have hE : cmpL (xs.drop (k + 1)) (ys.drop (k + 1)) = cmpL xs ys := by rw [HD.out, if_neg (by omega), if_neg (by omega)]
        have HE := Lib.hid hE
        have h1 : decide (x < y) = false := by simp; omega
        have h2 : decide (y < x) = false := by simp; omega
        clear HD hE
        go_wp2
        go_quiet (fail)
        go_wp2
        go_quiet (fail)
        go_wp2
        go_roundw
        case rel => exact ⟨k + 1, by omega, by go_num, HE.out, _, rfl⟩
        case measure => simp [intOf]; omega
      · have hE : cmpL xs ys = 1 := by rw [HD.out, if_neg (by omega), if_pos h]
        have HE := Lib.hid hE
        have h1 : decide (x < y) = false := by simp; omega
        have h2 : decide (y < x) = true := by simpa using h
        clear HD hE
        go_wp2
        go_quiet (fail)
        go_wp2
        go_quiet (fail)
        go_wp2
        go_ret
        exact ⟨by rw [HE.out] <;> rfl, by repeat (first | exact Below.refl _ _ | refine below_drewN ?_ _)⟩
    · obtain rfl : k = n := by omega
      have hE : cmpL xs ys = 0 := by rw [← HT.out, cmpL_end (by omega) (by omega)]
      have HE := Lib.hid hE
      clear hE HT
      go_wp2
      go_ret
      exact ⟨by rw [HE.out] <;> rfl, by repeat (first | exact Below.refl _ _ | refine below_drewN ?_ _)⟩
end Go.Proofs.YtomkgnamjfiocaaGreatDoor
namespace Go.Proofs.YtomkgnamjfiocaaGreatDoor
open Go.RowKit Go.ChangeShapes Go.WideShapes Go.ChangeAt Go.Deep
set_option linter.unusedVariables false

theorem marks_get (k n i : Nat) (h : i < n) : ((marks k n).map iv)[i]? = some (iv ((k : Int) + i)) := by
  rw [List.getElem?_map, List.getElem?_eq_getElem (by rw [marks_len]; exact h), marks_at k n i h]
  simp
theorem row_at {w : World} {B n size : Nat} {A : Option Addr} {xs : List Value} (h : Reads w B size A n xs) (hn : 0 < n) (hs : 0 < size) :
    ∃ b o, A = some ⟨b, o, none⟩ ∧ b < B ∧ ∀ j u, xs[j]? = some u → w.cell? ⟨b, o + j, none⟩ = some u := by
  obtain ⟨⟨b, o, sp⟩, hA, hb, hc⟩ := h.2 hn
  have hl := h.1
  have hpos : 0 < xs.length := by rw [hl]; exact Nat.mul_pos hn hs
  have hsp : sp = none := by
    have h0 := hc 0 _ (List.getElem?_eq_getElem hpos)
    simpa [Addr.add] using World.cell?_spot h0
  subst hsp
  exact ⟨b, o, hA, hb, fun j u hj => by have := hc j u hj; rwa [add_plain] at this⟩
/-- A graph of the call's own in [lo, hi), its two rows in blocks of their own. -/
structure GIn (w : World) (lo hi : Nat) (u v : Value) (n m : Nat) (xs ys : List Value) : Prop where
  ou : OwnIn w lo hi 3 1 u n xs
  ov : OwnIn w lo hi 90 4 v m ys
  ne : ∀ g, u.ownBlock = some g → v.ownBlock ≠ some g
section
variable {w w' : World} {lo hi a b : Nat} {u v : Value} {n m : Nat} {xs ys : List Value}
theorem GIn.tch (h : GIn w a b u v n m xs ys) (t : Tch lo hi w w') (hd : b ≤ lo ∨ hi ≤ a) : GIn w' a b u v n m xs ys := ⟨h.ou.tch t hd, h.ov.tch t hd, h.ne⟩
theorem GIn.below (h : GIn w a b u v n m xs ys) (hb : Below w.heap.size w w') : GIn w' a b u v n m xs ys := ⟨h.ou.below hb, h.ov.below hb, h.ne⟩
theorem GIn.form (h : GIn w a b u v n m xs ys) : ∃ A c B d, u = .slice A n c ∧ v = .slice B m d := by
  obtain ⟨A, c, h1⟩ := h.ou.form
  obtain ⟨B, d, h2⟩ := h.ov.form
  exact ⟨A, c, B, d, h1, h2⟩
theorem GIn.greads {A B : Option Addr} {c d : Nat} {g : G} (h : GIn w a b (.slice A n c) (.slice B m d) n m (g.vs.map iv) (ecs g.es)) : GReads w A n B m g :=
  ⟨by have := h.ou.row.1; simpa using this, by have := h.ov.row.1; rw [ecs_len] at this; omega, h.ou.reads, h.ov.reads⟩
end
theorem OwnIn.grown {w w' : World} {a b : Nat} {e : TypeId} {size n : Nat} {v : Value} {xs : List Value} {row : Option Nat} (h : OwnIn w a b e size v n xs) (hg : w.grownBy w' row) (hne : ∀ g, v.ownBlock = some g → row ≠ some g) : OwnIn w' a b e size v n xs :=
  ⟨own_same h.row fun g hh => hg.block g (ownBlock_some h.row hh).2 fun he => hne g hh he.symm, h.top⟩
end Go.Proofs.YtomkgnamjfiocaaGreatDoor
namespace Go.Proofs.YtomkgnamjfiocaaGreatDoor
open Go.RowKit Go.ChangeShapes Go.WideShapes Go.ChangeAt Go.Deep
set_option linter.unusedVariables false
end Go.Proofs.YtomkgnamjfiocaaGreatDoor
namespace Go.Proofs.YtomkgnamjfiocaaGreatDoor
open Go.RowKit Go.ChangeShapes Go.WideShapes Go.ChangeAt Go.Deep
set_option linter.unusedVariables false

theorem elem_at {α : Type} {f : α → List Value} {size : Nat} (hf : ∀ a, (f a).length = size) (hs : 0 < size) {w : World} {B n k : Nat} {A : Option Addr} {l : List α} (h : Reads w B size A n (l.flatMap f)) (hl : l.length = n) (hk : k < n) :
    ∃ b o, A = some ⟨b, o, none⟩ ∧ b < B ∧ ∃ a, l[k]? = some a ∧ ∀ j u, (f a)[j]? = some u → w.cell? ⟨b, o + k * size + j, none⟩ = some u := by
  obtain ⟨b, o, hA, hb, hc⟩ := row_at h (by omega) hs
  have hkl : k < l.length := by omega
  refine ⟨b, o, hA, hb, l[k], List.getElem?_eq_getElem hkl, fun j u hj => ?_⟩
  have hjs : j < size := by
    have := (List.getElem?_eq_some_iff.1 hj).1
    rw [hf] at this
    exact this
  have h1 := flatMap_at f size hf l k j hkl hjs
  rw [hj] at h1
  have := hc _ _ h1
  rwa [← Nat.add_assoc] at this
theorem flatMap_get {α : Type} {f : α → List Value} {size : Nat} (hf : ∀ a, (f a).length = size) {l : List α} {k j : Nat} {a : α} {u : Value} (hk : l[k]? = some a) (hj : (f a)[j]? = some u) : (l.flatMap f)[k * size + j]? = some u := by
  obtain ⟨hkl, rfl⟩ := List.getElem?_eq_some_iff.1 hk
  have hjs : j < size := by
    have := (List.getElem?_eq_some_iff.1 hj).1
    rw [hf] at this
    exact this
  rw [flatMap_at f size hf l k j hkl hjs, hj]
theorem own2 {w : World} {base g n cap k : Nat} {e : TypeId} {R L : List Value} {u0 u1 : Value} (h : w.ownsRow base e 2 (.slice (some ⟨g, 0, none⟩) n cap) n (R.take (k * 2) ++ L.drop (k * 2))) (hL : L.length = R.length)
    (h0 : R[k * 2]? = some u0) (h1 : R[k * 2 + 1]? = some u1) :
    ((w.setCell ⟨g, k * 2, none⟩ u0).setCell ⟨g, k * 2 + 1, none⟩ u1).ownsRow base e 2 (.slice (some ⟨g, 0, none⟩) n cap) n (R.take ((k + 1) * 2) ++ L.drop ((k + 1) * 2)) := by
  obtain ⟨k0, e0⟩ := get_of_some h0
  obtain ⟨k1, e1⟩ := get_of_some h1
  have s0 := (h.stored (k * 2) u0).1
  rw [set_take L R _ _ k0 hL e0] at s0
  have s1 := (s0.stored (k * 2 + 1) u1).1
  rw [set_take L R _ _ k1 hL e1] at s1
  have hk : (k + 1) * 2 = k * 2 + 1 + 1 := by omega
  rw [hk]
  exact s1
theorem own5 {w : World} {base g n cap k : Nat} {e : TypeId} {R L : List Value} {u0 u1 u2 u3 u4 : Value} (h : w.ownsRow base e 5 (.slice (some ⟨g, 0, none⟩) n cap) n (R.take (k * 5) ++ L.drop (k * 5))) (hL : L.length = R.length)
    (h0 : R[k * 5]? = some u0) (h1 : R[k * 5 + 1]? = some u1) (h2 : R[k * 5 + 2]? = some u2) (h3 : R[k * 5 + 3]? = some u3) (h4 : R[k * 5 + 4]? = some u4) :
    (((((w.setCell ⟨g, k * 5, none⟩ u0).setCell ⟨g, k * 5 + 1, none⟩ u1).setCell ⟨g, k * 5 + 2, none⟩ u2).setCell ⟨g, k * 5 + 3, none⟩ u3).setCell ⟨g, k * 5 + 4, none⟩ u4).ownsRow base e 5 (.slice (some ⟨g, 0, none⟩) n cap) n (R.take ((k + 1) * 5) ++ L.drop ((k + 1) * 5)) := by
  obtain ⟨k0, e0⟩ := get_of_some h0
  obtain ⟨k1, e1⟩ := get_of_some h1
  obtain ⟨k2, e2⟩ := get_of_some h2
  obtain ⟨k3, e3⟩ := get_of_some h3
  obtain ⟨k4, e4⟩ := get_of_some h4
  have s0 := (h.stored (k * 5) u0).1
  rw [set_take L R _ _ k0 hL e0] at s0
  have s1 := (s0.stored (k * 5 + 1) u1).1
  rw [set_take L R _ _ k1 hL e1] at s1
  have s2 := (s1.stored (k * 5 + 2) u2).1
  rw [set_take L R _ _ k2 hL e2] at s2
  have s3 := (s2.stored (k * 5 + 3) u3).1
  rw [set_take L R _ _ k3 hL e3] at s3
  have s4 := (s3.stored (k * 5 + 4) u4).1
  rw [set_take L R _ _ k4 hL e4] at s4
  have hk : (k + 1) * 5 = k * 5 + 4 + 1 := by omega
  rw [hk]
  exact s4
theorem flatMap_one_cell {α : Type} {f : α → List Value} (hf : ∀ a, ∀ u ∈ f a, u.oneCell' = true) (l : List α) : ∀ u ∈ l.flatMap f, u.oneCell' = true := by
  intro u hu
  obtain ⟨a, _, ha⟩ := List.mem_flatMap.1 hu
  exact hf a u ha

/-! ### steps -/
structure St where
  ed : Int
  inv : Bool
deriving DecidableEq
def stc (s : St) : List Value := [.int .i64 s.ed, .bool s.inv]
def stcs (l : List St) : List Value := l.flatMap stc
theorem stc_len (s : St) : (stc s).length = 2 := rfl
theorem stcs_len (l : List St) : (stcs l).length = l.length * 2 := flatMap_len stc 2 stc_len l
theorem stcs_append (a b : List St) : stcs (a ++ b) = stcs a ++ stcs b := by simp [stcs]
theorem stcs_one (l : List St) : ∀ u ∈ stcs l, u.oneCell' = true := by
  refine flatMap_one_cell (fun s u hu => ?_) l
  simp [stc] at hu
  rcases hu with rfl | rfl <;> rfl
theorem app_step : AppTy Tryz.prog 28 68 (.agg #[.int .i64 0, .bool false]) 2 16 := ⟨Tryz.underlying28, by kernel_rfl, rfl, by decide⟩
theorem step_at {w : World} {B n k : Nat} {A : Option Addr} {l : List St} (h : Reads w B 2 A n (stcs l)) (hl : l.length = n) (hk : k < n) :
    ∃ b o, A = some ⟨b, o, none⟩ ∧ b < B ∧ ∃ s, l[k]? = some s ∧ w.cell? ⟨b, o + k * 2, none⟩ = some (.int .i64 s.ed) ∧ w.cell? ⟨b, o + k * 2 + 1, none⟩ = some (.bool s.inv) := by
  obtain ⟨b, o, hA, hb, s, hs, hc⟩ := elem_at stc_len (by decide) h hl hk
  exact ⟨b, o, hA, hb, s, hs, hc 0 _ rfl, hc 1 _ rfl⟩
end Go.Proofs.YtomkgnamjfiocaaGreatDoor
namespace Go.Proofs.YtomkgnamjfiocaaGreatDoor
open Go.RowKit Go.ChangeShapes Go.WideShapes Go.ChangeAt Go.Deep
set_option linter.unusedVariables false
structure Cg where
  ins : Bool
  e : E
deriving DecidableEq
def cgc (c : Cg) : List Value := [.bool c.ins, .int .i64 c.e.id, .int .i64 c.e.fr, .int .i64 c.e.to, .int .i64 c.e.lb]
def cgcs (l : List Cg) : List Value := l.flatMap cgc
theorem cgc_len (s : Cg) : (cgc s).length = 5 := rfl
theorem cgcs_len (l : List Cg) : (cgcs l).length = l.length * 5 := flatMap_len cgc 5 cgc_len l
theorem cgcs_append (a b : List Cg) : cgcs (a ++ b) = cgcs a ++ cgcs b := by simp [cgcs]
theorem cgcs_one (l : List Cg) : ∀ u ∈ cgcs l, u.oneCell' = true := by
  refine flatMap_one_cell (fun s u hu => ?_) l
  simp [cgc] at hu
  rcases hu with rfl | rfl | rfl | rfl | rfl <;> rfl
theorem app_change : AppTy Tryz.prog 45 92 (.agg #[.bool false, .int .i64 0, .int .i64 0, .int .i64 0, .int .i64 0]) 5 40 := ⟨Tryz.underlying45, by kernel_rfl, rfl, by decide⟩
theorem change_at {w : World} {B n k : Nat} {A : Option Addr} {l : List Cg} (h : Reads w B 5 A n (cgcs l)) (hl : l.length = n) (hk : k < n) :
    ∃ b o, A = some ⟨b, o, none⟩ ∧ b < B ∧ ∃ s, l[k]? = some s ∧ w.cell? ⟨b, o + k * 5, none⟩ = some (.bool s.ins) ∧ w.cell? ⟨b, o + k * 5 + 1, none⟩ = some (.int .i64 s.e.id) ∧ w.cell? ⟨b, o + k * 5 + 2, none⟩ = some (.int .i64 s.e.fr) ∧ w.cell? ⟨b, o + k * 5 + 3, none⟩ = some (.int .i64 s.e.to) ∧ w.cell? ⟨b, o + k * 5 + 4, none⟩ = some (.int .i64 s.e.lb) := by
  obtain ⟨b, o, hA, hb, s, hs, hc⟩ := elem_at cgc_len (by decide) h hl hk
  exact ⟨b, o, hA, hb, s, hs, hc 0 _ rfl, hc 1 _ rfl, hc 2 _ rfl, hc 3 _ rfl, hc 4 _ rfl⟩
end Go.Proofs.YtomkgnamjfiocaaGreatDoor
namespace Go.Proofs.YtomkgnamjfiocaaGreatDoor
open Go.RowKit Go.ChangeShapes Go.WideShapes Go.ChangeAt Go.Deep
set_option linter.unusedVariables false
/-- Whether k is a multiple of three. -/
def m3 (k : Nat) : Bool := k % 3 == 0
theorem m3_int (k : Nat) : ((k : Int) % 3 == 0) = m3 k := by
  unfold m3
  rw [Bool.eq_iff_iff]
  simp
  omega
def smk (k i : Nat) : List Value := [.int .i64 ((k + i * 2 : Nat) : Int), .bool (m3 (k + i * 2 + 1))]
def smarks (k n : Nat) : List Value := (List.range n).flatMap (smk k)
theorem smk_len (k i : Nat) : (smk k i).length = 2 := rfl
theorem smarks_len (k n : Nat) : (smarks k n).length = n * 2 := by
  rw [smarks, flatMap_len (smk k) 2 (smk_len k), List.length_range]
theorem range_get {n i : Nat} (h : i < n) : (List.range n)[i]? = some i := by simp [h]
def cmk (k i : Nat) : List Value := [.bool (m3 (k + i * 5)), .int .i64 ((k + i * 5 + 1 : Nat) : Int), .int .i64 ((k + i * 5 + 1 + 1 : Nat) : Int), .int .i64 ((k + i * 5 + 1 + 1 + 1 : Nat) : Int), .int .i64 ((k + i * 5 + 1 + 1 + 1 + 1 : Nat) : Int)]
def cmarks (k n : Nat) : List Value := (List.range n).flatMap (cmk k)
theorem cmk_len (k i : Nat) : (cmk k i).length = 5 := rfl
theorem cmarks_len (k n : Nat) : (cmarks k n).length = n * 5 := by
  rw [cmarks, flatMap_len (cmk k) 5 (cmk_len k), List.length_range]
end Go.Proofs.YtomkgnamjfiocaaGreatDoor
namespace Go.Proofs.YtomkgnamjfiocaaGreatDoor
open Go.RowKit Go.ChangeShapes Go.WideShapes Go.ChangeAt Go.Deep
set_option linter.unusedVariables false

/-- A slice of the call's own in [lo, hi). -/
structure RIs (w : World) (lo hi : Nat) (e : TypeId) (size : Nat) (A : Option Addr) (n c : Nat) (xs : List Value) : Prop where
  own : OwnIn w lo hi e size (.slice A n c) n xs
  bd : n ≤ 2000000
section
variable {w w' W : World} {lo hi a b : Nat} {e e' : TypeId} {size size' n m c d : Nat} {A B : Option Addr} {xs ys : List Value}
theorem RIs.below (h : RIs w a b e size A n c xs) (hb : Below w.heap.size w w') : RIs w' a b e size A n c xs := ⟨h.own.below hb, h.bd⟩
theorem RIs.tch (h : RIs w a b e size A n c xs) (t : Tch lo hi w w') (hd : b ≤ lo ∨ hi ≤ a) : RIs w' a b e size A n c xs := ⟨h.own.tch t hd, h.bd⟩
theorem RIs.reads (h : RIs w a b e size A n c xs) : Reads w w.heap.size size A n xs := h.own.reads
theorem RIs.len (h : RIs w a b e size A n c xs) : xs.length = n * size := h.own.row.1
theorem RIs.of (h : w.ownsRow lo e size (.slice A n c) n xs) (bd : n ≤ 2000000) : RIs w lo w.heap.size e size A n c xs := ⟨OwnIn.of h, bd⟩
theorem RIs.wide (h : RIs w a b e size A n c xs) (h1 : lo ≤ a) (h2 : b ≤ hi) : RIs w lo hi e size A n c xs := ⟨⟨own_rebase h.own.row h1, fun g hg => Nat.lt_of_lt_of_le (h.own.top g hg) h2⟩, h.bd⟩
theorem own_ne {u v : Value} (h : w.ownsRow a e size u n xs) (k : w.ownsRow b e' size' v m ys) (hne : e ≠ e') : ∀ g, u.ownBlock = some g → v.ownBlock ≠ some g := by
  intro g hg hg2
  rcases h.2 with ⟨rfl, _⟩ | ⟨g1, cap, cur, rfl, _, hh, _⟩
  · simp [Value.ownBlock] at hg
  · rcases k.2 with ⟨rfl, _⟩ | ⟨g2, cap2, cur2, rfl, _, hh2, _⟩
    · simp [Value.ownBlock] at hg2
    · have h1 : g1 = g := by simpa [Value.ownBlock] using hg
      have h2 : g2 = g := by simpa [Value.ownBlock] using hg2
      subst h1
      subst h2
      rw [hh] at hh2
      injection hh2 with hh2
      injection hh2 with _ ht
      exact hne ht
end
/-- A graph of the call's own in [lo, hi). -/
structure GIs (w : World) (lo hi : Nat) (A : Option Addr) (n c : Nat) (B : Option Addr) (m d : Nat) (xs ys : List Value) : Prop where
  ou : RIs w lo hi 3 1 A n c xs
  ov : RIs w lo hi 90 4 B m d ys
section
variable {w w' W : World} {lo hi a b : Nat} {n m c d : Nat} {A B : Option Addr} {xs ys : List Value}
theorem GIs.below (h : GIs w a b A n c B m d xs ys) (hb : Below w.heap.size w w') : GIs w' a b A n c B m d xs ys := ⟨h.ou.below hb, h.ov.below hb⟩
theorem GIs.tch (h : GIs w a b A n c B m d xs ys) (t : Tch lo hi w w') (hd : b ≤ lo ∨ hi ≤ a) : GIs w' a b A n c B m d xs ys := ⟨h.ou.tch t hd, h.ov.tch t hd⟩
theorem GIs.gin (h : GIs w a b A n c B m d xs ys) : GIn w a b (.slice A n c) (.slice B m d) n m xs ys := ⟨h.ou.own, h.ov.own, own_ne h.ou.own.row h.ov.own.row (by decide)⟩
theorem GIs.greads {g : G} (h : GIs w a b A n c B m d (g.vs.map iv) (ecs g.es)) : GReads w A n B m g := h.gin.greads
theorem GIs.wide (h : GIs w a b A n c B m d xs ys) (h1 : lo ≤ a) (h2 : b ≤ hi) : GIs w lo hi A n c B m d xs ys := ⟨h.ou.wide h1 h2, h.ov.wide h1 h2⟩
end
/-- What GOwn says, with the two slices' parts named. -/
theorem gis_of {w : World} {base : Nat} {u v : Value} {g : G} (h : GOwn w base u v g) (h1 : g.vs.length ≤ 2000000) (h2 : g.es.length ≤ 2000000) :
    ∃ A c B d, u = .slice A g.vs.length c ∧ v = .slice B g.es.length d ∧ GIs w base w.heap.size A g.vs.length c B g.es.length d (g.vs.map iv) (ecs g.es) := by
  obtain ⟨ov, oe⟩ := h
  obtain ⟨A, c, rfl, _⟩ := own_form ov
  obtain ⟨B, d, rfl, _⟩ := own_form oe
  exact ⟨A, c, B, d, rfl, rfl, RIs.of ov h1, RIs.of oe h2⟩

section
variable (w : World)
end
set_option maxRecDepth 4000
set_option maxHeartbeats 400000
section
variable (w : World)
end
end Go.Proofs.YtomkgnamjfiocaaGreatDoor
namespace Go.Proofs.YtomkgnamjfiocaaGreatDoor
open Go.RowKit Go.ChangeShapes Go.WideShapes Go.ChangeAt Go.Deep
set_option linter.unusedVariables false
def ArgWalk (W : World) (v : Value) : Prop :=
  ∃ (A : Option Addr) (n c : Nat) (s : Int) (l : List St), v = .agg #[.int .i64 s, .slice A n c] ∧ l.length = n ∧ Reads W W.heap.size 2 A n (stcs l) ∧ n ≤ 9223372036854775807 ∧ (Lit.int .i64 s).wf = true ∧ ∀ x ∈ l, (Lit.int .i64 x.ed).wf = true
def ArgBatch (W : World) (v : Value) : Prop :=
  ∃ (A : Option Addr) (n c : Nat) (l : List Cg), v = .agg #[.slice A n c] ∧ l.length = n ∧ Reads W W.heap.size 5 A n (cgcs l) ∧ n ≤ 9223372036854775807 ∧ ∀ x ∈ l, wfE x.e
def ArgStep (W : World) (v : Value) : Prop := ∃ s : St, v = .agg #[.int .i64 s.ed, .bool s.inv] ∧ (Lit.int .i64 s.ed).wf = true
def ArgEdge (W : World) (v : Value) : Prop := ∃ e : E, v = .agg #[.int .i64 e.id, .int .i64 e.fr, .int .i64 e.to, .int .i64 e.lb] ∧ wfE e
section
variable {H : Type} {enc : TypeId × Value → H} {W : World} {base : Nat} {spare : Nat → Bool} {held : Bool}
theorem ci_bool : Tryz.prog.cellsOf 4 = 1 := by kernel_rfl
end
theorem szI_ok {l : Int} {n : Nat} (h : ¬ szI l n < 0) : n ≤ l ∧ 0 ≤ szI l n ∧ szI l n ≤ l := by
  unfold szI at *
  split at h
  · omega
  · rw [if_neg (by assumption)]
    omega
theorem szG_ok3 {l : Int} {n m : Nat} (h : ¬ szG l n m < 0) : n + m ≤ l ∧ 0 ≤ szG l n m ∧ szG l n m ≤ l := by
  obtain ⟨h1, _, h2, h3⟩ := szG_ok h
  exact ⟨h1, h2, h3⟩
theorem szI_neg (l : Int) (n : Nat) : szI l n < 0 → szI l n = -1 := by unfold szI; split <;> omega
end Go.Proofs.YtomkgnamjfiocaaGreatDoor
namespace Go.Proofs.YtomkgnamjfiocaaGreatDoor
open Go.RowKit Go.ChangeShapes Go.WideShapes Go.ChangeAt Go.Deep
set_option linter.unusedVariables false
structure Wk where
  st : Int
  steps : List St
deriving DecidableEq
structure IRd (w : World) (A : Option Addr) (n : Nat) (xs : List Int) : Prop where
  ln : xs.length = n
  rd : Reads w w.heap.size 1 A n (xs.map iv)
  bd : n ≤ 2000000
structure SRd (w : World) (A : Option Addr) (n : Nat) (xs : List St) : Prop where
  ln : xs.length = n
  rd : Reads w w.heap.size 2 A n (stcs xs)
  bd : n ≤ 2000000
structure ERd (w : World) (A : Option Addr) (n : Nat) (xs : List E) : Prop where
  ln : xs.length = n
  rd : Reads w w.heap.size 4 A n (ecs xs)
  bd : n ≤ 2000000
structure CRd (w : World) (A : Option Addr) (n : Nat) (xs : List Cg) : Prop where
  ln : xs.length = n
  rd : Reads w w.heap.size 5 A n (cgcs xs)
  bd : n ≤ 2000000
structure GRd (w : World) (A : Option Addr) (n : Nat) (B : Option Addr) (m : Nat) (g : G) : Prop where
  gr : GReads w A n B m g
  bn : n ≤ 2000000
  bm : m ≤ 2000000
section
variable {w W : World} {A B : Option Addr} {n c m d lo hi : Nat}
theorem IRd.up {xs : List Int} (h : IRd W A n xs) (hb : Below W.heap.size W w) : IRd w A n xs := ⟨h.ln, reads_up h.rd hb, h.bd⟩
theorem SRd.up {xs : List St} (h : SRd W A n xs) (hb : Below W.heap.size W w) : SRd w A n xs := ⟨h.ln, reads_up h.rd hb, h.bd⟩
theorem ERd.up {xs : List E} (h : ERd W A n xs) (hb : Below W.heap.size W w) : ERd w A n xs := ⟨h.ln, reads_up h.rd hb, h.bd⟩
theorem CRd.up {xs : List Cg} (h : CRd W A n xs) (hb : Below W.heap.size W w) : CRd w A n xs := ⟨h.ln, reads_up h.rd hb, h.bd⟩
theorem GRd.up {g : G} (h : GRd W A n B m g) (hb : Below W.heap.size W w) : GRd w A n B m g := ⟨h.gr.up hb, h.bn, h.bm⟩
theorem GRd.ints {g : G} (h : GRd w A n B m g) : IRd w A n g.vs := ⟨h.gr.ln, h.gr.rv, h.bn⟩
theorem GRd.edges {g : G} (h : GRd w A n B m g) : ERd w B m g.es := ⟨h.gr.lm, h.gr.re, h.bm⟩
theorem RIs.ird {xs : List Int} (h : RIs w lo hi 3 1 A n c (xs.map iv)) : IRd w A n xs := ⟨by simpa using h.len, h.reads, h.bd⟩
theorem RIs.srd {xs : List St} (h : RIs w lo hi 68 2 A n c (stcs xs)) : SRd w A n xs := ⟨by have := h.len; rw [stcs_len] at this; omega, h.reads, h.bd⟩
theorem RIs.crd {xs : List Cg} (h : RIs w lo hi 92 5 A n c (cgcs xs)) : CRd w A n xs := ⟨by have := h.len; rw [cgcs_len] at this; omega, h.reads, h.bd⟩
theorem RIs.erd {xs : List E} (h : RIs w lo hi 90 4 A n c (ecs xs)) : ERd w A n xs := ⟨by have := h.len; rw [ecs_len] at this; omega, h.reads, h.bd⟩
theorem GIs.grd {g : G} (h : GIs w lo hi A n c B m d (g.vs.map iv) (ecs g.es)) : GRd w A n B m g := ⟨h.greads, h.ou.bd, h.ov.bd⟩
end
section
variable (w : World) {A B : Option Addr} {n c m d : Nat}
end
end Go.Proofs.YtomkgnamjfiocaaGreatDoor
namespace Go.Proofs.YtomkgnamjfiocaaGreatDoor
open Go.RowKit Go.ChangeShapes Go.WideShapes Go.ChangeAt Go.Deep
set_option linter.unusedVariables false
theorem own_made {w : World} {base : Nat} (e : TypeId) (size : Nat) (hb : base ≤ w.heap.size) : (w.alloc (.cells #[] e)).ownsRow base e size (.slice (some ⟨w.heap.size, 0, none⟩) 0 0) 0 [] :=
  World.ownsRow_made _ _ _ hb (by simp [maxLen]) (by simp)
set_option maxRecDepth 4000 in
set_option maxHeartbeats 400000 in
theorem copyInts_is (w : World) {A : Option Addr} {n c : Nat} {xs : List Int} (h : IRd w A n xs) :
    Calls Tryz.prog 91 #[.slice A n c] w fun e w' => ∃ A2 c2, e = .returned (.slice A2 n c2) ∧ RIs w' w.heap.size w'.heap.size 3 1 A2 n c2 (xs.map iv) ∧ Below w.heap.size w w' := by
  have hn := h.bd
  have hr := h.rd
  have q1 : Small (0 + n) := small_of (by omega)
  have hB0 : Below w.heap.size w (w.alloc (.cells #[] 3)) := (Below.refl _ _).alloc (Nat.le_refl _) _
  have hrd := reads_up hr hB0
  have ho := own_made (w := w) (base := w.heap.size) 3 1 (Nat.le_refl _)
  have hle : w.heap.size ≤ (w.alloc (.cells #[] 3)).heap.size := by simp
  clear h hr
  go_enter Tryz.func91, Tryz.ntmps91
  go_wp2_with (at_builtin; go_loud (refine ap_plain _ app_int (by decide) w.heap.size (.tmp 3) (.tmp 4) rfl rfl _ _ _ rfl ho _ _ _ _ _ rfl hrd (iv_one _) q1 hle ?_; intro v' w1 hown1 hg1 hat1; have hb1 := below_grown_own hB0 ho hg1 (Nat.le_refl _) hle; clear hg1 hat1))
  rw [Nat.zero_add, List.nil_append] at hown1
  obtain ⟨A2, c2, rfl, _⟩ := own_form hown1
  go_ret
  exact ⟨_, _, rfl, RIs.of hown1 hn, hb1⟩
theorem own_drew {w : World} {base : Nat} {e : TypeId} {size n : Nat} {v : Value} {xs : List Value} (h : w.ownsRow base e size v n xs) : w.drew.ownsRow base e size v n xs := h
section
variable {P : Program} (w : World)
/-- append to an empty slice without room: nothing that there was is written. -/
theorem run_append_fresh (base : Nat) (t ty e : TypeId) (i : TypeInfo) (z : Value) (size bytes : Nat) (ht : P.underlying t = some (.slice e)) (hi : P.info? e = some i) (hz : i.zero = some z)
    (hsize : i.size = size) (hby : i.bytes = bytes) (hzs : z.cells.size = size) (hsz : 0 < size)
    (D : Option Addr) (hown : w.ownsRow base e size (.slice D 0 0) 0 [])
    (B : Nat) (A : Option Addr) (m c : Nat) (news : List Value) (hr : Reads w B size A m news) (h1 : ∀ u ∈ news, u.oneCell' = true)
    (h63 : 0 + m ≤ maxLen) (hbytes : (0 + m) * bytes ≤ 140737488355328) (hbase : base ≤ w.heap.size) :
    ∃ v' w', (Builtin.append_ #[t, t] ty #[.slice D 0 0, .slice A m c]).run P w = .ok v' w' ∧ w'.ownsRow base e size v' m news ∧ Below w.heap.size w w' := by
  rcases Nat.eq_zero_or_pos m with h0 | h0
  · subst h0
    have hn : news = [] := List.eq_nil_of_length_eq_zero (by simpa using hr.1)
    subst hn
    refine ⟨.slice D 0 0, w, ?_, hown, Below.refl _ _⟩
    rcases A with _ | ad
    · exact run_append_of_nil w base t ty e i size ht hi _ 0 [] hown c
    · rcases hown.2 with ⟨hv, _⟩ | ⟨g, cap, cur, hv, _⟩
      · injection hv with hv
        subst hv
        simp [Builtin.append_, run_underlying ht, sizeOf, typeInfo, hi, Builtin.lenOf, Builtin.firstCells, loadCells, loadCellsFrom]
      · injection hv with hv
        subst hv
        simp [Builtin.append_, run_underlying ht, sizeOf, typeInfo, hi, Builtin.lenOf, Builtin.firstCells, loadCells, loadCellsFrom, storeCells]
  · obtain ⟨ad, rfl, hb, hcells⟩ := hr.2 h0
    obtain ⟨v', w', hrun, h2, h3, _, h5⟩ := run_append_own_at (P := P) w base t ty e i z size bytes ht hi hz hsize hby hzs hsz _ 0 [] hown ad m c news hr.1 hcells h1 h63 hbytes hbase
    rw [Nat.zero_add, List.nil_append] at h2
    refine ⟨v', w', hrun, h2, ?_⟩
    rcases hown.2 with ⟨hv, _⟩ | ⟨g, cap, cur, hv, hbg, hg, hnc, hcm, hcs, htake⟩
    · injection hv with hv
      subst hv
      exact ⟨h3.os, h3.tape, h3.output, h3.size, fun k hk => h3.block k hk (by simp [Value.ownBlock])⟩
    · injection hv with hv hc2 hc3
      subst hv
      subst hc3
      subst hsize
      subst hby
      have hrr := run_append_grow (P := P) w t ty e i z ht hi hz ⟨g, 0, none⟩ 0 0 [] (by simp) (by simp) ad m c news hr.1 hcells (by omega) (by unfold maxLen at h63; omega) (growslice_fits (by omega) hbytes)
      rw [hrun] at hrr
      injection hrr with _ hw
      rw [hw]
      exact ((Below.refl _ _).drew).alloc (Nat.le_refl _) _
end
section
variable {P : Program} (w : World)
theorem wp_append_fresh {t e : TypeId} {z : Value} {size bytes : Nat} (T : AppTy P t e z size bytes) (hb64 : bytes ≤ 64) (base : Nat) {o : Oper} {a : Act} {K : Act → World → Prop} {Q : Exit → Act → World → Prop} (s x : Operand)
    (ho : o.op = .call { callee := .builtin .append, args := #[s, x], argTypes := #[t, t] })
    (D : Option Addr) (hs : a.eval s = .slice D 0 0) (hown : w.ownsRow base e size (.slice D 0 0) 0 [])
    (B : Nat) (A : Option Addr) (m c : Nat) (news : List Value) (hx : a.eval x = .slice A m c) (hr : Reads w B size A m news) (h1 : ∀ u ∈ news, u.oneCell' = true)
    (hsm : Small (0 + m)) (hbase : base ≤ w.heap.size)
    (h : ∀ v' w', w'.ownsRow base e size v' m news → Below w.heap.size w w' → K (a.put o.dst v') w') : o.wp P a w K Q := by
  obtain ⟨i0, hi, hz0, hz1, hz2⟩ := info_parts T.inf
  unfold Small at hsm
  have hby : (0 + m) * bytes ≤ 140737488355328 := by
    have : (0 + m) * bytes ≤ 16777216 * 64 := Nat.mul_le_mul hsm hb64
    omega
  obtain ⟨v', w', hrun, h2, h3⟩ := run_append_fresh (P := P) w base t o.type e i0 z size bytes T.und hi hz0 hz1 hz2 T.cells T.pos D hown B A m c news hr h1 (by unfold maxLen; omega) hby hbase
  unfold Oper.wp execOp
  simp only [ho, resolve, invoke, builtin, Sem.run_bind, Sem.run_pure, Result.andThen_ok, List.map_toArray, List.map_cons, List.map_nil, hs, hx, hrun]
  exact h v' w' h2 h3
/-- append([]T{}, x...) in a plain region. -/
theorem fr_plain {t e : TypeId} {z : Value} {size bytes : Nat} (T : AppTy P t e z size bytes) (hb64 : bytes ≤ 64) (base : Nat) {ops : Array Oper} {rest : List Oper} {o : Oper} {a : Act} {Q : Exit → Act → World → Prop} (s x : Operand)
    (hgd : o.guard = none) (ho : o.op = .call { callee := .builtin .append, args := #[s, x], argTypes := #[t, t] })
    (D : Option Addr) (hs : a.eval s = .slice D 0 0) (hown : w.ownsRow base e size (.slice D 0 0) 0 [])
    (B : Nat) (A : Option Addr) (m c : Nat) (news : List Value) (hx : a.eval x = .slice A m c) (hr : Reads w B size A m news) (h1 : ∀ u ∈ news, u.oneCell' = true)
    (hsm : Small (0 + m)) (hbase : base ≤ w.heap.size)
    (h : ∀ v' w', w'.ownsRow base e size v' m news → Below w.heap.size w w' → wpList P ops Q rest (a.put o.dst v') w') : wpList P ops Q (o :: rest) a w :=
  wpList_plain hgd fun _ hK => wp_append_fresh w T hb64 base s x ho D hs hown B A m c news hx hr h1 hsm hbase fun v' w' h2 h3 => hK _ _ (h v' w' h2 h3)
/-- append([]T{}, x...) in a region that draws. -/
theorem fr_step {t e : TypeId} {z : Value} {size bytes : Nat} (T : AppTy P t e z size bytes) (hb64 : bytes ≤ 64) (base : Nat) {ops : Array Oper} {o : Oper} {a : Act} {K : Act → World → Prop} {Q : Exit → Act → World → Prop} {E : Prop} (s x : Operand)
    (hgd : o.guard = none) (ho : o.op = .call { callee := .builtin .append, args := #[s, x], argTypes := #[t, t] })
    (D : Option Addr) (hs : a.eval s = .slice D 0 0) (hown : w.ownsRow base e size (.slice D 0 0) 0 [])
    (B : Nat) (A : Option Addr) (m c : Nat) (news : List Value) (hx : a.eval x = .slice A m c) (hr : Reads w B size A m news) (h1 : ∀ u ∈ news, u.oneCell' = true)
    (hsm : Small (0 + m)) (hbase : base ≤ w.heap.size)
    (h : ∀ v' w', w'.ownsRow base e size v' m news → Below w.heap.size w w' → K (a.put o.dst v') w') :
    if Region.wanted o (yielded ops a.tmps) = true then Oper.wp P o a w K Q else E := by
  have hw : Region.wanted o (yielded ops a.tmps) = true := by simp [Region.wanted, hgd]
  rw [if_pos hw]
  exact wp_append_fresh w T hb64 base s x ho D hs hown B A m c news hx hr h1 hsm hbase h
end
theorem RIs.setB {w : World} {a b : Nat} {e : TypeId} {size n c : Nat} {A : Option Addr} {xs : List Value} (h : RIs w a b e size A n c xs) {p : Addr} (hp : p.block < a) (u : Value) : RIs (w.setCell p u) a b e size A n c xs :=
  ⟨⟨ownsRow_setCell_below h.own.row hp u, h.own.top⟩, h.bd⟩
set_option maxRecDepth 4000 in
set_option maxHeartbeats 1000000 in
theorem copyGraph_is (w : World) {A B : Option Addr} {n c m d : Nat} {g : G} (h : GRd w A n B m g) :
    Calls Tryz.prog 62 #[.agg #[.slice A n c, .slice B m d]] w fun e w' => ∃ A2 c2 B2 d2, e = .returned (.agg #[.slice A2 n c2, .slice B2 m d2]) ∧ GIs w' w.heap.size w'.heap.size A2 n c2 B2 m d2 (g.vs.map iv) (ecs g.es) ∧ Below w.heap.size w w' := by
  have hn := h.bn
  have hm := h.bm
  have q1 : Small (0 + m) := small_of (by omega)
  go_enter Tryz.func62, Tryz.ntmps62
  go_wp2
  have hB0 : Below w.heap.size w ((w.alloc (.cells #[.slice A n c, .slice B m d] 27)).alloc (.cells #[.slice none 0 0, .slice none 0 0] 27)) := ((Below.refl _ _).alloc (Nat.le_refl _) _).alloc (by simp) _
  have kA : ((w.alloc (.cells #[.slice A n c, .slice B m d] 27)).alloc (.cells #[.slice none 0 0, .slice none 0 0] 27)).cell? ⟨w.heap.size, 0, none⟩ = some (.slice A n c) := by go_simp
  have kB : ((w.alloc (.cells #[.slice A n c, .slice B m d] 27)).alloc (.cells #[.slice none 0 0, .slice none 0 0] 27)).cell? ⟨w.heap.size, 1, none⟩ = some (.slice B m d) := by go_simp
  have r0 : ((w.alloc (.cells #[.slice A n c, .slice B m d] 27)).alloc (.cells #[.slice none 0 0, .slice none 0 0] 27)).cell? ⟨w.heap.size + 1, 0, none⟩ = some (.slice none 0 0) := by go_simp
  have r1 : ((w.alloc (.cells #[.slice A n c, .slice B m d] 27)).alloc (.cells #[.slice none 0 0, .slice none 0 0] 27)).cell? ⟨w.heap.size + 1, 1, none⟩ = some (.slice none 0 0) := by go_simp
  have f0 : ((w.alloc (.cells #[.slice A n c, .slice B m d] 27)).alloc (.cells #[.slice none 0 0, .slice none 0 0] 27)).frozen? ⟨w.heap.size + 1, 0, none⟩ = false := by go_simp
  have f1 : ((w.alloc (.cells #[.slice A n c, .slice B m d] 27)).alloc (.cells #[.slice none 0 0, .slice none 0 0] 27)).frozen? ⟨w.heap.size + 1, 1, none⟩ = false := by go_simp
  have hz0 : w.heap.size + 1 < ((w.alloc (.cells #[.slice A n c, .slice B m d] 27)).alloc (.cells #[.slice none 0 0, .slice none 0 0] 27)).heap.size := by simp
  generalize ((w.alloc (.cells #[.slice A n c, .slice B m d] 27)).alloc (.cells #[.slice none 0 0, .slice none 0 0] 27)) = w0 at *
  have hb0 : Below w0.heap.size w0 w0.drew := (Below.refl _ _).drew
  have hB1 := below_then hB0 hb0
  have hb2 : Below w0.heap.size w0 (w0.drew.alloc (.cells #[] 90)) := hb0.alloc (Nat.le_refl _) _
  have hB2 := below_then hB0 hb2
  have hI := h.ints
  have hE := h.edges
  clear h
  go_region_held3 (fun w' => w'.cell? ⟨w.heap.size, 0, none⟩ = some (.slice A n c) ∧ w'.cell? ⟨w.heap.size, 1, none⟩ = some (.slice B m d)) (first | exact ⟨kA, kB⟩ | exact ⟨cell_keep hb2 kA, cell_keep hb2 kB⟩ | exact ⟨kA3, kB3⟩ | exact ⟨cell_keep hb3a kA, cell_keep hb3a kB⟩ | exact ⟨cell_keep hb4 kA, cell_keep hb4 kB⟩ | (refine ⟨?_, ?_⟩ <;> (have kA4 := cell_keep hb4 kA; have kB4 := cell_keep hb4 kB; go_simp))) (first
    | (refine fr_step _ app_edge (by decide) w0.heap.size (.tmp 6) (.tmp 8) rfl rfl _ rfl oA _ _ _ _ _ rfl rA (ecs_one _) q1 sA ?_; intro v4 w4 O4 hb40; obtain ⟨B4, d4, rfl, _⟩ := own_form O4; have hb4 := below_then hb3a hb40; have r04 := cell_keep hb4 r0; have r14 := cell_keep hb4 r1; have f04 := frozen_keep hb4 r0 f0; have f14 := frozen_keep hb4 r1 f1; have I4 := (I3.below hb3s).below hb40)
    | (refine fr_step _ app_edge (by decide) w0.heap.size (.tmp 6) (.tmp 8) rfl rfl _ rfl oB _ _ _ _ _ rfl rB (ecs_one _) q1 sB ?_; intro v4 w4 O4 hb40; obtain ⟨B4, d4, rfl, _⟩ := own_form O4; have hb4 := below_then hb3 hb40; have r04 := cell_keep hb4 r0; have r14 := cell_keep hb4 r1; have f04 := frozen_keep hb4 r0 f0; have f14 := frozen_keep hb4 r1 f1; have I4 := I3.below hb40)
    | (go_simp; go_at_call 91; refine Calls.mono (copyInts_is _ (hI.up ?hb)) ?_; (case hb => first | exact hB2 | exact hB1); rintro e w3 ⟨A3, c3, rfl, I3, hb30⟩; have hb3 : Below w0.heap.size w0 w3 := (by first | exact below_then hb2 hb30 | exact below_then hb0 hb30); have hb3s : Below w3.heap.size w3 (w3.alloc (.cells #[] 90)) := (Below.refl _ _).alloc (Nat.le_refl _) _; have hb3a := below_then hb3 hb3s; have oA := own_made (w := w3) (base := w0.heap.size) 90 4 hb3.size; have rA := (hE.up (below_then hB0 hb3a)).rd; have rB := (hE.up (below_then hB0 hb3)).rd; have sA := hb3a.size; have sB := hb3.size; (try (have oB := own_below (own_made (w := w0.drew) (base := w0.heap.size) 90 4 (Nat.le_refl _)) hb30 (Nat.le_refl _))); have kA3 := cell_keep hb3 kA; have kB3 := cell_keep hb3 kB; dsimp only))
  all_goals
    have z4 := hb4.size
    have z3 := hb3.size
    have z43 : w3.heap.size ≤ w4.heap.size := by first | exact hb40.size | (have := hb40.size; simp at this; omega)
    have hB4 := below_then hB0 hb4
    have I5 := ((I4.setB (p := ⟨w.heap.size + 1, 0, none⟩) (by simp; omega) (.slice A3 n c3)).setB (p := ⟨w.heap.size + 1, 1, none⟩) (by simp; omega) (.slice B4 m d4)).wide (lo := w.heap.size) (hi := w4.heap.size) (by simp; omega) z43
    have O5 := (((RIs.of O4 hm).setB (p := ⟨w.heap.size + 1, 0, none⟩) (by simp; omega) (.slice A3 n c3)).setB (p := ⟨w.heap.size + 1, 1, none⟩) (by simp; omega) (.slice B4 m d4)).wide (lo := w.heap.size) (hi := w4.heap.size) (by omega) (Nat.le_refl _)
    clear hb40 I4 oA hB2 hb2 hI hE kA kB kA3 kB3 I3 z4 z3 z43
    go_wp2
    refine bodyPost_ret (v := .agg #[.slice A3 n c3, .slice B4 m d4]) ?_ rfl ?_
    · simp [results, Tryz.results62, go_sem]
      go_simp
    · refine ⟨_, _, _, _, rfl, ⟨by simpa using I5, by simpa using O5⟩, ?_⟩
      exact (hB4.setCell (by simp) _).setCell (by simp) _
set_option maxRecDepth 4000 in
set_option maxHeartbeats 1000000 in
theorem l3Copy_is (w : World) {A B : Option Addr} {n c m d : Nat} {g : G} (h : GRd w A n B m g) :
    Calls Tryz.prog 68 #[.agg #[.slice A n c, .slice B m d]] w fun e w' => ∃ A2 c2 B2 d2, e = .returned (.agg #[.slice A2 n c2, .slice B2 m d2]) ∧ GIs w' w.heap.size w'.heap.size A2 n c2 B2 m d2 (g.vs.map iv) (ecs g.es) ∧ Below w.heap.size w w' := by
  have hn := h.bn
  have hm := h.bm
  have q1 : Small (0 + m) := small_of (by omega)
  have q2 : Small (0 + n) := small_of (by omega)
  go_enter Tryz.func68, Tryz.ntmps68
  go_wp2
  have hB0 : Below w.heap.size w ((w.alloc (.cells #[.slice A n c, .slice B m d] 27)).alloc (.cells #[.slice none 0 0, .slice none 0 0] 27)) := ((Below.refl _ _).alloc (Nat.le_refl _) _).alloc (by simp) _
  have kA : ((w.alloc (.cells #[.slice A n c, .slice B m d] 27)).alloc (.cells #[.slice none 0 0, .slice none 0 0] 27)).cell? ⟨w.heap.size, 0, none⟩ = some (.slice A n c) := by go_simp
  have kB : ((w.alloc (.cells #[.slice A n c, .slice B m d] 27)).alloc (.cells #[.slice none 0 0, .slice none 0 0] 27)).cell? ⟨w.heap.size, 1, none⟩ = some (.slice B m d) := by go_simp
  have r0 : ((w.alloc (.cells #[.slice A n c, .slice B m d] 27)).alloc (.cells #[.slice none 0 0, .slice none 0 0] 27)).cell? ⟨w.heap.size + 1, 0, none⟩ = some (.slice none 0 0) := by go_simp
  have r1 : ((w.alloc (.cells #[.slice A n c, .slice B m d] 27)).alloc (.cells #[.slice none 0 0, .slice none 0 0] 27)).cell? ⟨w.heap.size + 1, 1, none⟩ = some (.slice none 0 0) := by go_simp
  have f0 : ((w.alloc (.cells #[.slice A n c, .slice B m d] 27)).alloc (.cells #[.slice none 0 0, .slice none 0 0] 27)).frozen? ⟨w.heap.size + 1, 0, none⟩ = false := by go_simp
  have f1 : ((w.alloc (.cells #[.slice A n c, .slice B m d] 27)).alloc (.cells #[.slice none 0 0, .slice none 0 0] 27)).frozen? ⟨w.heap.size + 1, 1, none⟩ = false := by go_simp
  have hz0 : w.heap.size + 1 < ((w.alloc (.cells #[.slice A n c, .slice B m d] 27)).alloc (.cells #[.slice none 0 0, .slice none 0 0] 27)).heap.size := by simp
  generalize ((w.alloc (.cells #[.slice A n c, .slice B m d] 27)).alloc (.cells #[.slice none 0 0, .slice none 0 0] 27)) = w0 at *
  have hI := h.ints
  have hE := h.edges
  clear h
  go_region_held3 (fun w' => w'.cell? ⟨w.heap.size, 0, none⟩ = some (.slice A n c) ∧ w'.cell? ⟨w.heap.size, 1, none⟩ = some (.slice B m d)) (first | exact ⟨kA, kB⟩ | exact ⟨kA3, kB3⟩ | exact ⟨kA4, kB4⟩ | exact ⟨cell_al _ (w := w0.drew) kA, cell_al _ (w := w0.drew) kB⟩ | exact ⟨cell_al _ (cell_al _ (w := w0.drew) kA), cell_al _ (cell_al _ (w := w0.drew) kB)⟩ | exact ⟨cell_al _ kA3, cell_al _ kB3⟩ | (refine ⟨?_, ?_⟩ <;> go_simp)) (first
    | (refine fr_step _ app_edge (by decide) w0.heap.size (.tmp 7) (.tmp 9) rfl rfl _ rfl ?_ _ _ _ _ _ rfl (hE.up (below_then hB0 ?_)).rd (ecs_one _) q1 ?_ ?_; (focus (first | exact own_made (w := w3) _ _ z3 | (refine own_below (w := ((w0.alloc (.cells #[] 3)).alloc (.cells #[] 90)).drew) ?_ hb30 (Nat.le_refl _); have hq := own_drew (own_made (w := w0.alloc (.cells #[] 3)) (base := w0.heap.size) 90 4 (by simp <;> omega)); simpa only [World.size_alloc] using hq) | exact own_below (own_drew ((own_made (w := w0) _ _ (Nat.le_refl _)).alloc _)) hb30 (Nat.le_refl _))); (focus (first | exact hb3 | exact hb3.alloc z3 _)); (focus (first | exact z3 | exact Nat.le_trans z3 (by simp <;> omega))); intro v4 w4 O4 hb40; obtain ⟨B4, d4, rfl, _⟩ := own_form O4; have hb4 : Below w0.heap.size w0 w4 := (by first | exact below_then hb3 hb40 | exact below_then (hb3.alloc z3 _) hb40); have I4 : RIs w4 w0.heap.size w3.heap.size 3 1 A3 n c3 (g.vs.map iv) := (by first | exact I3.below hb40 | exact (I3.below ((Below.refl _ _).alloc (Nat.le_refl _) _)).below hb40); have z43 : w3.heap.size ≤ w4.heap.size := (by first | exact hb40.size | (have := hb40.size; simp at this; omega)); have r04 := cell_keep hb4 r0; have r14 := cell_keep hb4 r1; have f04 := frozen_keep hb4 r0 f0; have f14 := frozen_keep hb4 r1 f1; have kA4 := cell_keep hb4 kA; have kB4 := cell_keep hb4 kB)
    | (refine fr_step _ app_int (by decide) w0.heap.size (.tmp 3) (.tmp 5) rfl rfl _ rfl ?_ _ _ _ _ _ rfl (hI.up (below_then hB0 ?_)).rd (iv_one _) q2 ?_ ?_; (focus (first | exact own_made (w := w0) _ _ (Nat.le_refl _) | exact (own_made (w := w0) _ _ (Nat.le_refl _)).alloc _ | (have hq := own_drew (own_made (w := w0.alloc (.cells #[] 90)) (base := w0.heap.size) 3 1 (by simp <;> omega)); simpa only [World.size_alloc] using hq))); (focus (repeat (first | with_reducible exact Below.refl _ _ | with_reducible refine Below.drew ?_ | with_reducible refine Below.alloc ?_ (by simp <;> omega) _))); (focus (simp <;> omega)); intro v3 w3 I30 hb30; obtain ⟨A3, c3, rfl, _⟩ := own_form I30; have I3 := RIs.of I30 hn; have hb3 : Below w0.heap.size w0 w3 := below_then (by repeat (first | with_reducible exact Below.refl _ _ | with_reducible refine Below.drew ?_ | with_reducible refine Below.alloc ?_ (by simp <;> omega) _)) hb30; have z3 := hb3.size; have kA3 := cell_keep hb3 kA; have kB3 := cell_keep hb3 kB; clear I30))
  all_goals
    have z4 := hb4.size
    have hB4 := below_then hB0 hb4
    have I5 := ((I4.setB (p := ⟨w.heap.size + 1, 0, none⟩) (by simp; omega) (.slice A3 n c3)).setB (p := ⟨w.heap.size + 1, 1, none⟩) (by simp; omega) (.slice B4 m d4)).wide (lo := w.heap.size) (hi := w4.heap.size) (by omega) z43
    have O5 := (((RIs.of O4 hm).setB (p := ⟨w.heap.size + 1, 0, none⟩) (by simp; omega) (.slice A3 n c3)).setB (p := ⟨w.heap.size + 1, 1, none⟩) (by simp; omega) (.slice B4 m d4)).wide (lo := w.heap.size) (hi := w4.heap.size) (by omega) (Nat.le_refl _)
    clear hb40 I4 hI hE kA kB kA3 kB3 I3 z4 z3 z43
    go_wp2
    refine bodyPost_ret (v := .agg #[.slice A3 n c3, .slice B4 m d4]) ?_ rfl ?_
    · simp [results, Tryz.results68, go_sem]
      go_simp
    · refine ⟨_, _, _, _, rfl, ⟨by simpa using I5, by simpa using O5⟩, ?_⟩
      exact (hB4.setCell (by simp) _).setCell (by simp) _
end Go.Proofs.YtomkgnamjfiocaaGreatDoor
namespace Go.Proofs.YtomkgnamjfiocaaGreatDoor
open Go.RowKit Go.ChangeShapes Go.WideShapes Go.ChangeAt Go.Deep
set_option linter.unusedVariables false
theorem Tch.below {lo hi : Nat} {w w' w'' : World} (t : Tch lo hi w w') (h : Below w'.heap.size w' w'') : Tch lo hi w w'' := t.trans (Tch.of_below h)
theorem Tch.drew {lo hi : Nat} {w w' : World} (h : Tch lo hi w w') : Tch lo hi w w'.drew := ⟨h.os, h.tape, h.output, h.size, h.block⟩
theorem Tch.alloc {lo hi : Nat} {w w' : World} (h : Tch lo hi w w') (o : Obj) : Tch lo hi w (w'.alloc o) := h.trans (Tch.of_below ((Below.refl _ _).alloc (Nat.le_refl _) _))
theorem Tch.setCell {lo hi : Nat} {w w' : World} (h : Tch lo hi w w') {p : Addr} (h1 : lo ≤ p.block) (h2 : p.block < hi) (u : Value) : Tch lo hi w (w'.setCell p u) :=
  ⟨h.os, h.tape, h.output, by rw [World.size_setCell]; exact h.size, fun k hk hd => (Below.heap_setCell w' p u k (by omega)).trans (h.block k hk hd)⟩
theorem Tch.refl (lo hi : Nat) (w : World) : Tch lo hi w w := ⟨rfl, rfl, rfl, Nat.le_refl _, fun _ _ _ => rfl⟩
theorem Tch.frz {lo hi : Nat} {w w' : World} (t : Tch lo hi w w') {p : Addr} {u : Value} (h : w.cell? p = some u) (hf : w.frozen? p = false) (hd : p.block < lo ∨ hi ≤ p.block) : w'.frozen? p = false := by
  have hlt := World.block_lt_of_cell? w p h
  have hb := t.block p.block hlt hd
  rw [← hf]
  unfold World.frozen?
  rw [hb]
theorem Tch.grown {lo hi base : Nat} {w w4 w5 : World} {e : TypeId} {size n : Nat} {v : Value} {xs : List Value} (t : Tch lo hi w w4) (hown : w4.ownsRow base e size v n xs) (hb : w.heap.size ≤ base) (hg : w4.grownBy w5 v.ownBlock) : Tch lo hi w w5 :=
  ⟨hg.os.trans t.os, hg.tape.trans t.tape, hg.output.trans t.output, Nat.le_trans t.size hg.size, fun k hk hd =>
    (hg.block k (Nat.lt_of_lt_of_le hk t.size) (fun hh => by have := (ownBlock_some hown hh.symm).1; omega)).trans (t.block k hk hd)⟩
theorem Tch.grown2 {lo hi : Nat} {w w4 w5 : World} {row : Option Nat} (t : Tch lo hi w w4) (hg : w4.grownBy w5 row) (hr : ∀ g, row = some g → (lo ≤ g ∧ g < hi) ∨ w.heap.size ≤ g) : Tch lo hi w w5 :=
  ⟨hg.os.trans t.os, hg.tape.trans t.tape, hg.output.trans t.output, Nat.le_trans t.size hg.size, fun k hk hd =>
    (hg.block k (Nat.lt_of_lt_of_le hk t.size) (fun hh => by have := hr k hh.symm; omega)).trans (t.block k hk hd)⟩
theorem Kept.frz {w : World} {p : Addr} {v : Value} (h : w.cell? p = some v) (hf : w.frozen? p = false) (x : Kept w) : x.W.frozen? p = false := frozen_keep x.be h hf
theorem Kept.of {w w' : World} (x : Kept w) (h : Below x.W.heap.size x.W w') : ∃ y : Kept w, w' = y.W := ⟨⟨w', below_then x.be h⟩, rfl⟩
theorem Kept.fst {w w' : World} (h : Below w.heap.size w w') : ∃ y : Kept w, w' = y.W := ⟨⟨w', h⟩, rfl⟩
theorem Kept.size {w : World} {k : Nat} (h : k < w.heap.size) (x : Kept w) : k < x.W.heap.size := Nat.lt_of_lt_of_le h x.be.size
theorem Blk.kc {w : World} {g : Nat} {t : TypeId} {cs : Array Value} (h : Blk w g t cs) (i : Nat) {v : Value} (hv : cs[i]? = some v) (x : Kept w) : x.W.cell? ⟨g, i, none⟩ = some v := by
  rw [(h.below x.be h.lt).cell, hv]
theorem Blk.kf {w : World} {g : Nat} {t : TypeId} {cs : Array Value} (h : Blk w g t cs) (i : Nat) (x : Kept w) : x.W.frozen? ⟨g, i, none⟩ = false := (h.below x.be h.lt).frozen i
theorem wp_region_k2 {P : Program} {id : Nat} {Q : Exit → Act → World → Prop} {a : Act} {w : World} {y : Kept w} {l : List Oper} (hm : P.follows .mixedOrders = true) (hB : Region.lexB .any l.toArray = true)
    (h : wpQuiet P l.toArray (fun w' => ∃ x : Kept w, w' = x.W) (fun a' => ∀ w', (∃ x : Kept w, w' = x.W) → Q .normal a' w') l a) : (Code.region id l.toArray true).wp P Q a y.W :=
  wp_region_quiet (C := fun w' => ∃ x : Kept w, w' = x.W) hm hB ⟨⟨y.W.drew, below_then y.be (Below.refl _ _).drew⟩, rfl⟩ (by simpa using h)
theorem Blk.tch {w w' : World} {lo hi g : Nat} {t : TypeId} {cs : Array Value} (h : Blk w g t cs) (k : Tch lo hi w w') (hd : g < lo ∨ hi ≤ g) : Blk w' g t cs := (k.block g h.lt hd).trans h
theorem RIs.grown {w w' : World} {a b : Nat} {e : TypeId} {size n c : Nat} {A : Option Addr} {xs : List Value} {row : Option Nat} (h : RIs w a b e size A n c xs) (hg : w.grownBy w' row) (hne : ∀ q, (Value.slice A n c).ownBlock = some q → row ≠ some q) : RIs w' a b e size A n c xs :=
  ⟨⟨own_same h.own.row fun q hq => hg.block q (ownBlock_some h.own.row hq).2 fun e => hne q hq e.symm, h.own.top⟩, h.bd⟩
/-- A world in which, of what w held, the box xb alone may differ. -/
structure KeptB (w : World) (xb : Nat) where
  W : World
  be : Tch xb (xb + 1) w W
section
variable {w w' : World} {xb : Nat} {p : Addr} {v : Value}
theorem KeptB.cell (h : w.cell? p = some v) (hne : p.block ≠ xb) (x : KeptB w xb) : x.W.cell? p = some v := cell_tch x.be h (by omega)
theorem KeptB.frz (h : w.cell? p = some v) (hf : w.frozen? p = false) (hne : p.block ≠ xb) (x : KeptB w xb) : x.W.frozen? p = false := x.be.frz h hf (by omega)
theorem KeptB.of (x : KeptB w xb) (h : Below x.W.heap.size x.W w') : ∃ y : KeptB w xb, w' = y.W := ⟨⟨w', x.be.below h⟩, rfl⟩
theorem KeptB.fst (h : Tch xb (xb + 1) w w') : ∃ y : KeptB w xb, w' = y.W := ⟨⟨w', h⟩, rfl⟩
theorem KeptB.set (x : KeptB w xb) (h : xb < w.heap.size) (i : Nat) (u : Value) : ∃ y : KeptB w xb, x.W.setCell ⟨xb, i, none⟩ u = y.W := ⟨⟨_, x.be.setCell (p := ⟨xb, i, none⟩) (Nat.le_refl _) (Nat.lt_succ_self _) u⟩, rfl⟩
theorem KeptB.up {w0 : World} (x : KeptB w xb) (h : Below w0.heap.size w0 w) (hx : w0.heap.size ≤ xb) : Below w0.heap.size w0 x.W := below_tch h x.be hx
theorem KeptB.blk {g : Nat} {t : TypeId} {cs : Array Value} (h : Blk w g t cs) (hne : g ≠ xb) (x : KeptB w xb) : Blk x.W g t cs := h.tch x.be (by omega)
theorem Blk.bc {g : Nat} {t : TypeId} {cs : Array Value} (h : Blk w g t cs) (hne : g ≠ xb) (i : Nat) {v : Value} (hv : cs[i]? = some v) (x : KeptB w xb) : x.W.cell? ⟨g, i, none⟩ = some v := by
  rw [(x.blk h hne).cell, hv]
theorem Blk.bf {g : Nat} {t : TypeId} {cs : Array Value} (h : Blk w g t cs) (hne : g ≠ xb) (i : Nat) (x : KeptB w xb) : x.W.frozen? ⟨g, i, none⟩ = false := (x.blk h hne).frozen i
theorem wp_region_kb {P : Program} {id : Nat} {Q : Exit → Act → World → Prop} {a : Act} {w : World} {xb : Nat} {y : KeptB w xb} {l : List Oper} (hm : P.follows .mixedOrders = true) (hB : Region.lexB .any l.toArray = true)
    (h : wpQuiet P l.toArray (fun w' => ∃ x : Kept y.W, w' = x.W) (fun a' => ∀ w', (∃ x : Kept y.W, w' = x.W) → Q .normal a' w') l a) : (Code.region id l.toArray true).wp P Q a y.W :=
  wp_region_quiet (C := fun w' => ∃ x : Kept y.W, w' = x.W) hm hB ⟨⟨y.W.drew, (Below.refl _ _).drew⟩, rfl⟩ (by simpa using h)
end
end Go.Proofs.YtomkgnamjfiocaaGreatDoor
