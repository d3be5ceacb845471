/- Steps from a node: plain facts; and a drawn region whose values are known. -/
import Derived.Test.YtljggmgijadjaaaDrawF
import Derived.Test.YtljggmgijadjaaaNod
import Derived.Test.YtljggmgijadjaaaCont
import Derived.Test.YtljggmgijadjaaaStepsW
import Derived.Test.YtljggmgijadjaaaHoldA
import Derived.Laws.StructEq
namespace Go.Proofs.Ytljggmgijadjaaa
open Go.RowKit Go.ChangeShapes Go.WideShapes Go.ChangeAt Go.Deep
set_option linter.unusedVariables false
theorem stE_at {g : G} (hv : validG g = true) {e : E} (he : e ∈ g.es) (b : Bool) : stE g ⟨e.id, b⟩ = (e, true) := by
  have hm := ixN_of_mem he
  obtain ⟨k, hk, hke⟩ := List.mem_iff_getElem.1 he
  have hj : g.es[k]? = some e := by rw [List.getElem?_eq_getElem hk, hke]
  obtain ⟨x, hx⟩ : ∃ x, g.es[ixN g.es e.id]? = some x := ⟨_, List.getElem?_eq_getElem hm⟩
  have hid := ixN_id hx
  have hkk : ixN g.es e.id = k := by
    rcases Nat.lt_trichotomy (ixN g.es e.id) k with h | h | h
    · have := sorted_ids hv k _ _ _ h hx hj; omega
    · exact h
    · have := sorted_ids hv _ k _ _ h hj hx; omega
  exact stE_yes hv (s := ⟨e.id, b⟩) (by show g.es[ixN g.es e.id]? = some e; rw [hkk]; exact hj)
theorem invL_lb {x : Int} (h0 : 0 ≤ x) (h2 : x ≤ 2) : invL (2 * x) = 2 * x + 1 ∧ invL (2 * x + 1) = 2 * x := by
  have : x = 0 ∨ x = 1 ∨ x = 2 := by omega
  rcases this with rfl | rfl | rfl <;> decide
theorem steps_law {g : G} {node : Int} {s : St} (hs : s ∈ stepsF g node) :
    stFrom g s = node ∧ stTo g ⟨s.ed, !s.inv⟩ = node ∧ stLet g ⟨s.ed, !s.inv⟩ = invL (stLet g s) ∧ (afterZ g node (stLet g s)).any (· == stTo g s) = true ∧ (stepsW g node (stLet g s)).any (fun y => decide (y = s)) = true := by
  have hW : s ∈ stepsW g node (stLet g s) := List.mem_filter.2 ⟨hs, by simp⟩
  have hA : (afterZ g node (stLet g s)).any (· == stTo g s) = true := by
    rw [List.any_eq_true]
    exact ⟨stTo g s, by unfold afterZ; rw [ascZ_mem]; exact List.mem_map_of_mem hW, by simp⟩
  have hF : (stepsW g node (stLet g s)).any (fun y => decide (y = s)) = true := by
    rw [List.any_eq_true]
    exact ⟨s, hW, by simp⟩
  cases hv : validG g with
  | false =>
    unfold stepsF at hs
    rw [hv] at hs
    simp at hs
  | true =>
    unfold stepsF accSt at hs
    rw [hv, if_pos rfl, List.take_length] at hs
    obtain ⟨e, he, hse⟩ := List.mem_flatMap.1 hs
    have hfr := stE_at hv he
    obtain ⟨k, hk, hke⟩ := List.mem_iff_getElem.1 he
    have hbd := okE_bd (valid_edge hv (show g.es[k]? = some e by rw [List.getElem?_eq_getElem hk, hke]))
    have hlb := invL_lb (x := e.lb) (by omega) (by omega)
    have hcase : (s = ⟨e.id, false⟩ ∧ e.fr = node) ∨ (s = ⟨e.id, true⟩ ∧ e.to = node) := by
      unfold stepsOf at hse
      rw [List.mem_append] at hse
      rcases hse with h | h
      · by_cases hc : e.fr = node
        · rw [if_pos hc] at h
          exact .inl ⟨by simpa using h, hc⟩
        · rw [if_neg hc] at h
          cases h
      · by_cases hc : e.to = node
        · rw [if_pos hc] at h
          exact .inr ⟨by simpa using h, hc⟩
        · rw [if_neg hc] at h
          cases h
    refine ⟨?_, ?_, ?_, hA, hF⟩
    · rcases hcase with ⟨rfl, hn⟩ | ⟨rfl, hn⟩ <;> simp [stFrom, hfr, hn]
    · rcases hcase with ⟨rfl, hn⟩ | ⟨rfl, hn⟩ <;> simp [stTo, stFrom, hfr, hn]
    · rcases hcase with ⟨rfl, hn⟩ | ⟨rfl, hn⟩
      · simp [stLet, hfr, hlb.1]
      · simp [stLet, hfr, hlb.2]
set_option maxRecDepth 20000 in
theorem eqS_run (x y : St) (w : World) : (Op.equalIn 10000 33 (.agg #[.int .i64 x.ed, .bool x.inv]) (.agg #[.int .i64 y.ed, .bool y.inv])).run Try.prog w = .ok (decide (x = y)) w := by
  obtain ⟨a, b⟩ := x
  obtain ⟨a', b'⟩ := y
  have hE : decide (St.mk a b = St.mk a' b') = ((a == a') && (b == b')) := by
    rw [Bool.eq_iff_iff]; simp
  rw [hE]
  cases h1 : (a == a') <;> cases h2 : (b == b') <;> go_simp
theorem eqlS_run (x y : St) (w : World) : (binOp .eql 33 (.agg #[.int .i64 x.ed, .bool x.inv]) (.agg #[.int .i64 y.ed, .bool y.inv])).run Try.prog w = .ok (.bool (decide (x = y))) w := by
  rw [run_eql_struct, eqS_run]
  rfl
def Cv (cs : List Value) (j : Nat) (zs : List Int) (k : Nat) (v : Value) (w' : World) : Prop := if k = j then ∃ A n c, v = .slice A n c ∧ IRd w' A n zs else v = cs.getD k undef
theorem Cv.of {cs : List Value} {j k : Nat} {zs : List Int} {v : Value} {w' : World} (h : k ≠ j) (e : v = cs.getD k undef) : Cv cs j zs k v w' := by
  unfold Cv
  rw [if_neg h]
  exact e
theorem Cv.at {cs : List Value} {j : Nat} {zs : List Int} {v : Value} {w' : World} {A : Option Addr} {n c : Nat} (e : v = .slice A n c) (h : IRd w' A n zs) : Cv cs j zs j v w' := by
  unfold Cv
  rw [if_pos rfl]
  exact ⟨A, n, c, e, h⟩
theorem Cv.up {cs : List Value} {j k : Nat} {zs : List Int} {v : Value} {w' w'' : World} (h : Cv cs j zs k v w') (hb : Below w'.heap.size w' w'') : Cv cs j zs k v w'' := by
  unfold Cv at h ⊢
  by_cases hk : k = j
  · rw [if_pos hk] at h ⊢
    obtain ⟨A, n, c, e, hi⟩ := h
    exact ⟨A, n, c, e, hi.up hb⟩
  · rw [if_neg hk] at h ⊢
    exact h
structure JS (w : World) (cs : List Value) (j : Nat) (zs : List Int) (lo : Nat) (L : Nat → Bool) (f : Nat → Value) (w' : World) : Prop where
  k : ∃ x : Kept w, w' = x.W
  v : ∀ k, L k = true → Cv cs j zs k (f (lo + k)) w'
theorem JS.get {w w' : World} {cs : List Value} {j lo : Nat} {zs : List Int} {L : Nat → Bool} {f : Nat → Value} (h : JS w cs j zs lo L f w') (k : Nat) (hk : k ≠ j) (hL : L k = true) : f (lo + k) = cs.getD k undef := by
  have := h.v k hL
  unfold Cv at this
  rwa [if_neg hk] at this
theorem JS.sl {w w' : World} {cs : List Value} {j lo : Nat} {zs : List Int} {L : Nat → Bool} {f : Nat → Value} (h : JS w cs j zs lo L f w') (hL : L j = true) : ∃ A n c, f (lo + j) = .slice A n c ∧ IRd w' A n zs := by
  have := h.v j hL
  unfold Cv at this
  rwa [if_pos rfl] at this
theorem JS.put {w w' w'' : World} {cs : List Value} {j lo i : Nat} {zs : List Int} {L : Nat → Bool} {f : Nat → Value} {x : Value} (h : JS w cs j zs lo L f w') (hb : Below w'.heap.size w' w'') (hx : Cv cs j zs i x w'') : JS w cs j zs lo (set1 L i) (upd f (lo + i) x) w'' := by
  obtain ⟨y, rfl⟩ := h.k
  refine ⟨⟨⟨w'', below_then y.be hb⟩, rfl⟩, fun k hk => ?_⟩
  by_cases hki : k = i
  · subst hki
    rw [upd_same]
    exact hx
  · rw [upd_ne f x (by omega)]
    exact (h.v k (by rwa [set1_ne hki] at hk)).up hb
theorem wanted_of {o : Oper} {ops : Array Oper} {b : Act} {j d : Nat} {v : Bool} (hg : o.guard = some (j, v)) (hd : (ops[j]?).bind (·.dst) = some d) (h : b.tmps.getD d undef = .bool v) : Region.wanted o (yielded ops b.tmps) = true := by
  have h2 : b.tmps[d]? = some (.bool v) := by
    rw [Array.getD_eq_getD_getElem?] at h
    cases hx : b.tmps[d]? with
    | none => rw [hx] at h; cases h
    | some u => rw [hx] at h; exact congrArg some h
  simp [Region.wanted, hg, yielded, hd, h2]
end Go.Proofs.Ytljggmgijadjaaa
