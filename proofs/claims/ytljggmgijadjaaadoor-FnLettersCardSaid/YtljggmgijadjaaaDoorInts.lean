/- Slices of ints: the arguments opened; toIntS, eqIntS, markIntS, heldIntS. -/
import Derived.Test.YtljggmgijadjaaaDoorNum
namespace Go.Proofs.YtljggmgijadjaaaDoor
open Go.RowKit Go.ChangeShapes Go.WideShapes Go.ChangeAt Go.Deep
set_option linter.unusedVariables false

def iv (x : Int) : Value := .int .i64 x
theorem iv_one (l : List Int) : ∀ u ∈ l.map iv, u.oneCell' = true := by
  intro u hu
  obtain ⟨b, _, rfl⟩ := List.mem_map.1 hu
  rfl
theorem app_int : AppTy Tryd.prog 22 3 (.int .i64 0) 1 8 := ⟨Tryd.underlying22, by kernel_rfl, rfl, by decide⟩

/-- What the walk is told of a slice of ints that came in. -/
def ArgInts (w : World) (v : Value) : Prop :=
  ∃ (A : Option Addr) (n c : Nat) (xs : List Int), v = .slice A n c ∧ xs.length = n ∧ n ≤ c ∧ c ≤ maxLen ∧ Reads w w.heap.size 1 A n (xs.map iv) ∧ ∀ x ∈ xs, (Lit.int .i64 x).wf = true

theorem argInts_of {H : Type} {enc : TypeId × Value → H} {P : Program} {t e : TypeId} (ht : P.underlying t = some (.slice e)) (he : P.underlying e = some (.int .i64)) (hc : P.cellsOf e = 1) {W : World} {spare : Nat → Bool} {held : Bool} {base : Nat}
    {n0 len cap : Nat} {a0 : Option Addr} {x : DataW H × List MemPlace} (hf : DataW.trod enc P W base spare held n0 t [.slice a0 len cap] = some x) : ArgInts W (.slice a0 len cap) := by
  have hlt := DataW.trod_lt (w := W) n0 _ _ _ hf
  rcases open_ints ht he hc hf with ⟨hcs, _⟩ | ⟨y, l, c, zs, hcs, _, hl, hm, hz, hx, hcell, hwz⟩
  · simp at hcs
    obtain ⟨rfl, rfl, rfl⟩ := hcs
    exact ⟨none, 0, 0, [], rfl, rfl, Nat.le_refl _, Nat.zero_le _, Reads.none_, by simp⟩
  · simp at hcs
    obtain ⟨rfl, rfl, rfl⟩ := hcs
    have hz' : len ≤ zs.length := by rw [hz]; split <;> omega
    refine ⟨some y, len, cap, zs.take len, rfl, by rw [List.length_take]; omega, hl, hm, ⟨by rw [List.length_map, List.length_take]; omega, fun hn => ⟨y, rfl, ?_, fun j u hu => ?_⟩⟩, fun x hx => hwz x (List.mem_of_mem_take hx)⟩
    · have h0 := hcell 0 (by omega)
      have := World.block_lt_of_cell? W _ h0
      rwa [block_of_add] at this
    · rw [List.getElem?_map] at hu
      rcases Nat.lt_or_ge j len with hj | hj
      · rw [List.getElem?_take, if_pos hj] at hu
        have h0 := hcell j (by omega)
        rw [h0]
        rw [List.getD_eq_getElem?_getD]
        cases hzj : zs[j]? with
        | none => rw [hzj] at hu; simp at hu
        | some q => rw [hzj] at hu; simpa [iv] using hu
      · rw [List.getElem?_take, if_neg (by omega)] at hu
        simp at hu
set_option maxRecDepth 100000 in
theorem argInts {H : Type} {enc : TypeId × Value → H} {W : World} {spare : Nat → Bool} {held : Bool} {base b0 : Nat} {r : Reach} {v : Value} {d : DataW H} {p : List MemPlace} (hv : Value.okWide Tryd.prog W r b0 22 v)
    (h : DataW.Trod enc Tryd.prog W base spare held 22 v d p) : ArgInts W v := by
  obtain ⟨a0, len, cap, rfl⟩ := okWide_slice Tryd.underlying22 hv
  obtain ⟨fuel, hf⟩ := h
  exact argInts_of Tryd.underlying22 Tryd.underlying3 (by kernel_rfl) hf

theorem own_below {w w' : World} {base B : Nat} {e : TypeId} {size n : Nat} {v : Value} {xs : List Value} (h : w.ownsRow base e size v n xs) (hb : Below B w w') (hB : w.heap.size ≤ B) : w'.ownsRow base e size v n xs := by
  refine ⟨h.1, ?_⟩
  rcases h.2 with hn | ⟨g, cap, cur, rfl, hb1, hgg, rest⟩
  · exact .inl hn
  · refine .inr ⟨g, cap, cur, rfl, hb1, ?_, rest⟩
    have hlt := (Array.getElem?_eq_some_iff.1 hgg).1
    rw [hb.block g (by omega)]
    exact hgg
theorem own_rebase {w : World} {base base' : Nat} {e : TypeId} {size n : Nat} {v : Value} {xs : List Value} (h : w.ownsRow base e size v n xs) (hB : base' ≤ base) : w.ownsRow base' e size v n xs := by
  refine ⟨h.1, ?_⟩
  rcases h.2 with hn | ⟨g, cap, cur, rfl, hb1, rest⟩
  · exact .inl hn
  · exact .inr ⟨g, cap, cur, rfl, Nat.le_trans hB hb1, rest⟩
/-- An owned row as a slice value that reads. -/
theorem own_form {w : World} {base : Nat} {e : TypeId} {size n : Nat} {v : Value} {xs : List Value} (h : w.ownsRow base e size v n xs) : ∃ A c, v = .slice A n c ∧ n ≤ c ∧ c ≤ maxLen ∧ Reads w w.heap.size size A n xs := by
  rcases h.2 with ⟨rfl, rfl⟩ | ⟨g, cap, cur, rfl, hb1, hgg, hnc, hcm, rest⟩
  · refine ⟨none, 0, rfl, Nat.le_refl _, Nat.zero_le _, ?_⟩
    have : xs = [] := List.eq_nil_of_length_eq_zero (by simpa using h.1)
    subst this
    exact Reads.none_
  · exact ⟨_, cap, rfl, hnc, hcm, Reads.of_own h⟩
theorem iv_get {xs : List Int} {k : Nat} {u : Value} (h : (xs.map iv)[k]? = some u) (hk : k < xs.length) : u = iv xs[k] := by
  rw [List.getElem?_map, List.getElem?_eq_getElem hk] at h
  simpa using h.symm

theorem set_take {α : Type} (L R : List α) (k : Nat) (x : α) (hk : k < R.length) (hL : L.length = R.length) (hx : R[k] = x) : (R.take k ++ L.drop k).set k x = R.take (k + 1) ++ L.drop (k + 1) := by
  subst hx
  rw [List.set_append_right _ _ (by simp; omega)]
  rw [List.length_take, Nat.min_eq_left (by omega), Nat.sub_self]
  rw [List.drop_eq_getElem_cons (show k < L.length by omega), List.set_cons_zero, List.take_succ_eq_append_getElem hk, List.append_assoc]
  rfl

theorem reads_up {W w : World} {size n : Nat} {A : Option Addr} {xs : List Value} (h : Reads W W.heap.size size A n xs) (hb : Below W.heap.size W w) : Reads w w.heap.size size A n xs := (h.below hb).more hb.size
theorem below_then {W a b : World} (h : Below W.heap.size W a) (k : Below a.heap.size a b) : Below W.heap.size W b := h.trans (k.mono h.size)
def eqB (xs ys : List Int) : Bool := decide (xs = ys)
theorem eqB_refl (xs : List Int) : eqB xs xs = true := by simp [eqB]
theorem take_eq_succ {α : Type} {xs ys : List α} {k : Nat} (h : xs.take k = ys.take k) (h1 : k < xs.length) (h2 : k < ys.length) : xs.take (k + 1) = ys.take (k + 1) ↔ xs[k] = ys[k] := by
  rw [List.take_succ_eq_append_getElem h1, List.take_succ_eq_append_getElem h2, h]
  exact ⟨fun hh => by simpa using List.append_cancel_left hh, fun hh => by rw [hh]⟩
set_option maxRecDepth 4000 in
set_option maxHeartbeats 400000 in
theorem eqIntS_any (A B : Option Addr) (n c m d : Nat) (xs ys : List Int) (w : World) (hl : xs.length = n) (hl2 : ys.length = m) (hn : n ≤ 2000000) (hm : m ≤ 2000000) (hr : Reads w w.heap.size 1 A n (xs.map iv)) (hr2 : Reads w w.heap.size 1 B m (ys.map iv)) :
    Calls Tryd.prog 48 #[.slice A n c, .slice B m d] w fun e w' => e = .returned (.bool (eqB xs ys)) ∧ Below w.heap.size w w' := by
  by_cases hnm : n = m
  · obtain rfl : n = m := hnm
    have hnn : ((n : Int) != n) = false := by simp
    go_enter Tryd.func48, Tryd.ntmps48
    go_wp2
    clear hnn
    go_loopw [5] (fun i wr => ∃ k : Nat, k ≤ n ∧ i = .int .i64 k ∧ xs.take k = ys.take k ∧ ∃ q, wr = w.drewN q) (fun i _ => n - (intOf i).toNat)
    case atStart => exact ⟨0, Nat.zero_le _, rfl, rfl, 0, rfl⟩
    case round =>
      obtain ⟨k, hk, rfl, htk, q, rfl⟩ := hrel
      have HT := Lib.hid htk
      clear htk
      by_cases hlt : k < n
      · obtain ⟨ad, u, rfl, had, hu, hc⟩ := hr.at_ hlt
        obtain ⟨bd, u2, rfl, hbd, hu2, hc2⟩ := hr2.at_ hlt
        have hv := iv_get hu (by omega)
        have hv2 := iv_get hu2 (by omega)
        obtain ⟨x, hx⟩ : ∃ x, xs[k]'(by omega) = x := ⟨_, rfl⟩
        obtain ⟨y, hy⟩ : ∃ y, ys[k]'(by omega) = y := ⟨_, rfl⟩
        have HX := Lib.hid hx
        have HY := Lib.hid hy
        rw [hx] at hv
        rw [hy] at hv2
        subst hv
        subst hv2
        unfold iv at hc hc2
        have hlt' : (k : Int) < n := by omega
        clear hu hu2 hx hy
        by_cases hxy : x = y
        · have hne : (x != y) = false := by simp [hxy]
          go_wp2
          go_quiet (fail)
          go_wp2
          go_roundw
          case rel => exact ⟨k + 1, by omega, by go_num, (take_eq_succ HT.out (by omega) (by omega)).2 (by rw [HX.out, HY.out, hxy]), _, rfl⟩
          case measure => simp [intOf]; omega
        · have hne : (x != y) = true := by simp [hxy]
          go_wp2
          go_quiet (fail)
          go_wp2
          have hE : eqB xs ys = false := by
            simp only [eqB, decide_eq_false_iff_not]
            rintro rfl
            exact hxy (HX.out.symm.trans HY.out)
          go_ret
          exact ⟨by rw [hE] <;> rfl, by repeat (first | exact Below.refl _ _ | refine below_drewN ?_ _)⟩
      · obtain rfl : k = n := by omega
        have hE : eqB xs ys = true := by
          simp only [eqB, decide_eq_true_eq]
          have h := HT.out
          rwa [List.take_of_length_le (by omega), List.take_of_length_le (by omega)] at h
        have HE := Lib.hid hE
        clear hE
        go_wp2
        go_ret
        exact ⟨by rw [HE.out] <;> rfl, by repeat (first | exact Below.refl _ _ | refine below_drewN ?_ _)⟩
  · have hnn : ((n : Int) != m) = true := by simp; omega
    have hE : eqB xs ys = false := by simp [eqB]; intro h; subst h; omega
    rw [hE]
    clear hE
    go_enter Tryd.func48, Tryd.ntmps48
    go_wp2
    go_ret
    exact ⟨rfl, Below.refl _ _⟩
end Go.Proofs.YtljggmgijadjaaaDoor
