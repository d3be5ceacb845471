/- Arguments opened: rows of structs; graphs. -/
import Derived.Test.YtljggmgijadjaaaEdgeQ
namespace Go.Proofs.Ytljggmgijadjaaa
open Go.RowKit Go.ChangeShapes Go.WideShapes Go.ChangeAt Go.Deep
set_option linter.unusedVariables false

section
variable {H : Type} {enc : TypeId × Value → H} {W : World} {base : Nat} {spare : Nat → Bool} {held : Bool}

theorem flatMap_len {α : Type} (f : α → List Value) (size : Nat) (hf : ∀ a, (f a).length = size) : ∀ l : List α, (l.flatMap f).length = l.length * size
  | [] => by simp
  | a :: l => by rw [List.flatMap_cons, List.length_append, hf, flatMap_len f size hf l, List.length_cons, Nat.add_mul]; omega
theorem flatMap_at {α : Type} (f : α → List Value) (size : Nat) (hf : ∀ a, (f a).length = size) : ∀ (l : List α) (k j : Nat) (hk : k < l.length) (hj : j < size), (l.flatMap f)[k * size + j]? = (f l[k])[j]?
  | a :: l, 0, j, hk, hj => by
    rw [List.flatMap_cons, List.getElem?_append_left (by rw [hf]; omega)]
    simp
  | a :: l, k + 1, j, hk, hj => by
    rw [List.flatMap_cons, List.getElem?_append_right (by rw [hf, Nat.add_mul]; omega), hf]
    have : (k + 1) * size + j - size = k * size + j := by rw [Nat.add_mul]; omega
    rw [this, flatMap_at f size hf l k j (by simpa using hk) hj]
    simp
theorem flatMap_ix {α : Type} (f : α → List Value) (size : Nat) (hs : 0 < size) (hf : ∀ a, (f a).length = size) (l : List α) (q : Nat) (hq : q < l.length * size) : ∃ hk : q / size < l.length, (l.flatMap f)[q]? = (f l[q / size])[q % size]? := by
  have hk : q / size < l.length := by rw [Nat.div_lt_iff_lt_mul hs]; exact hq
  refine ⟨hk, ?_⟩
  have h := flatMap_at f size hf l (q / size) (q % size) hk (Nat.mod_lt _ hs)
  rw [Nat.mul_comm, Nat.div_add_mod] at h
  exact h

/-- A slice that came in, its elements decoded one by one. -/
theorem argRow_of {α : Type} {P : Program} {t e : TypeId} {size : Nat} (f : α → List Value) (wfa : α → Prop) (hfl : ∀ a, (f a).length = size) (hs : 0 < size) (ht : P.underlying t = some (.slice e)) (hC : P.cellsOf e = size)
    (dec : ∀ (n : Nat) (cs : List Value) (y : DataW H × List MemPlace), DataW.trod enc P W base spare held n e cs = some y → ∃ a : α, cs = f a ∧ wfa a)
    {n0 : Nat} {v : Value} {x : DataW H × List MemPlace} (hf : DataW.trod enc P W base spare held n0 t [v] = some x) :
    ∃ (A : Option Addr) (n c : Nat) (xs : List α), v = .slice A n c ∧ xs.length = n ∧ n ≤ c ∧ c ≤ maxLen ∧ Reads W W.heap.size size A n (xs.flatMap f) ∧ ∀ a ∈ xs, wfa a := by
  rcases open_slice ht hf with ⟨hcs, _⟩ | ⟨a, len, cap, m, n, D, Pl, hcs, hb, hl, hm, hmm, hx, hi⟩
  · exact ⟨none, 0, 0, [], by simpa using hcs, rfl, Nat.le_refl _, Nat.zero_le _, Reads.none_, by simp⟩
  · have hv : v = .slice (some a) len cap := by simpa using hcs
    have hml : len ≤ m := by rw [hmm]; split <;> omega
    have key : ∀ i, ∃ y : Option α, i < len → ∃ a0, y = some a0 ∧ wfa a0 ∧ ∀ j, j < size → W.cell? (a.add (i * size + j)) = (f a0)[j]? := by
      intro i
      by_cases hil : i < len
      · obtain ⟨cs', hc, ht'⟩ := hi i (by omega)
        obtain ⟨a0, h1, h2⟩ := dec _ _ _ ht'
        rw [hC] at hc
        obtain ⟨_, hcl, hat⟩ := World.cells?_some hc
        refine ⟨some a0, fun _ => ⟨a0, rfl, h2, fun j hj => ?_⟩⟩
        have := hat j hj
        rw [add_of_add, h1] at this
        exact this
      · exact ⟨none, fun h => absurd h hil⟩
    obtain ⟨g, hg⟩ := Classical.axiomOfChoice key
    have key2 : ∀ q, q ≤ len → ∃ xs : List α, xs.length = q ∧ ∀ i, (hi : i < q) → g i = xs[i]? := by
      intro q
      induction q with
      | zero => intro _; exact ⟨[], rfl, fun i h => absurd h (by omega)⟩
      | succ q ih =>
        intro hq
        obtain ⟨xs, h1, h2⟩ := ih (by omega)
        obtain ⟨a0, h3, _⟩ := hg q (by omega)
        refine ⟨xs ++ [a0], by simp [h1], fun i hi => ?_⟩
        rcases Nat.lt_or_ge i q with h | h
        · rw [h2 i h, List.getElem?_append_left (by omega)]
        · obtain rfl : i = q := by omega
          rw [h3, List.getElem?_append_right (by omega), h1]
          simp
    obtain ⟨xs, hxl, hxg⟩ := key2 len (Nat.le_refl _)
    have at_ : ∀ i, (hi : i < len) → wfa (xs[i]'(by omega)) ∧ ∀ j, j < size → W.cell? (a.add (i * size + j)) = (f (xs[i]'(by omega)))[j]? := by
      intro i hi
      obtain ⟨a0, h1, h2, h3⟩ := hg i hi
      have h4 := hxg i hi
      rw [h1, List.getElem?_eq_getElem (by omega)] at h4
      have h5 : a0 = xs[i]'(by omega) := by simpa using h4
      rw [← h5]
      exact ⟨h2, h3⟩
    refine ⟨some a, len, cap, xs, hv, hxl, hl, hm, ⟨by rw [flatMap_len f size hfl, hxl], fun hn => ⟨a, rfl, ?_, fun q u hu => ?_⟩⟩, fun a0 ha0 => ?_⟩
    · have h := (at_ 0 hn).2 0 hs
      rw [List.getElem?_eq_getElem (by rw [hfl]; exact hs)] at h
      have := World.block_lt_of_cell? W _ h
      rwa [block_of_add] at this
    · have hq : q < xs.length * size := by
        have := (List.getElem?_eq_some_iff.1 hu).1
        rwa [flatMap_len f size hfl] at this
      obtain ⟨hk, h⟩ := flatMap_ix f size hs hfl xs q hq
      rw [h] at hu
      have h2 := (at_ (q / size) (by omega)).2 (q % size) (Nat.mod_lt _ hs)
      rw [hu, Nat.mul_comm, Nat.div_add_mod] at h2
      exact h2
    · obtain ⟨i, hi, rfl⟩ := List.mem_iff_getElem.1 ha0
      exact (at_ i (by omega)).1

def wfE (e : E) : Prop := (Lit.int .i64 e.id).wf = true ∧ (Lit.int .i64 e.fr).wf = true ∧ (Lit.int .i64 e.to).wf = true ∧ (Lit.int .i64 e.lb).wf = true
theorem ci_int : Try.prog.cellsOf 3 = 1 := by kernel_rfl
theorem flatMap_one (xs : List Int) : xs.flatMap (fun x => [iv x]) = xs.map iv := by
  induction xs with
  | nil => rfl
  | cons x xs ih => simp [List.flatMap_cons, ih]
theorem decI (n : Nat) (cs : List Value) (y : DataW H × List MemPlace) (h : DataW.trod enc Try.prog W base spare held n 3 cs = some y) : ∃ x : Int, cs = [iv x] ∧ (Lit.int .i64 x).wf = true := by
  obtain ⟨a, e0, _, w0⟩ := DataW.trod_int Try.underlying3 h
  exact ⟨a, e0, w0⟩
end
end Go.Proofs.Ytljggmgijadjaaa
