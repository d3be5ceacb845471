/- IsValidWalk, WalkNodes, WalkEnd of both packages. -/
import Derived.Test.YtfigilkggjokkaaWalkB
namespace Go.Proofs.Ytfigilkggjokkaa
open Go.RowKit Go.ChangeShapes Go.WideShapes Go.ChangeAt Go.Deep
set_option linter.unusedVariables false
def endZ (g : G) (s : Int) (l : List St) : Int := if walkOk g s l then ((nodesZ g s l)[l.length]?).getD 0 else -1
theorem nodesZ_len {g : G} {s : Int} {l : List St} (h : walkOk g s l = true) : (nodesZ g s l).length = l.length + 1 := by rw [nodesZ_yes h, nodesUp_len (Nat.le_refl _)]
theorem endZ_no {g : G} {s : Int} {l : List St} (h : walkOk g s l = false) : endZ g s l = -1 := by simp [endZ, h]
theorem endZ_at {g : G} {s : Int} {l : List St} (h : walkOk g s l = true) : (nodesZ g s l)[l.length]? = some (endZ g s l) := by
  have hl := nodesZ_len h
  unfold endZ
  rw [h, if_pos rfl, List.getElem?_eq_getElem (by omega)]
  rfl
set_option maxRecDepth 4000 in
theorem implIsValidWalk_is (w : World) {A B C : Option Addr} {n c m d q e : Nat} {g : G} (h : GRd w A n B m g) (s : Int) {l : List St} (h' : SRd w C q l) :
    Calls Try.prog 98 #[.agg #[.slice A n c, .slice B m d], .agg #[.int .i64 s, .slice C q e]] w fun r w' => r = .returned (.bool (walkOk g s l)) ∧ Below w.heap.size w w' := by
  have hB0 : Below w.heap.size w ((w.alloc (.cells #[.slice A n c, .slice B m d] 45)).alloc (.cells #[.int .i64 s, .slice C q e] 58)) := ((Below.refl _ _).alloc (Nat.le_refl _) _).alloc (by simp) _
  go_enter Try.func98, Try.ntmps98
  go_wp2_with fail
  refine (nodesOf_is _ (h.up hB0) s (h'.up hB0)).mono ?_
  rintro r w1 ⟨A1, n1, c1, rfl, O, hb1⟩
  go_wp2
  go_ret
  exact ⟨rfl, below_then hB0 hb1⟩
set_option maxRecDepth 4000 in
theorem implWalkNodes_is (w : World) {A B C : Option Addr} {n c m d q e : Nat} {g : G} (h : GRd w A n B m g) (s : Int) {l : List St} (h' : SRd w C q l) :
    Calls Try.prog 106 #[.agg #[.slice A n c, .slice B m d], .agg #[.int .i64 s, .slice C q e]] w fun r w' => ∃ A2 n2 c2, r = .returned (.slice A2 n2 c2) ∧ RIs w' w.heap.size w'.heap.size 3 1 A2 n2 c2 ((nodesZ g s l).map iv) ∧ Below w.heap.size w w' := by
  have hB0 : Below w.heap.size w ((w.alloc (.cells #[.slice A n c, .slice B m d] 45)).alloc (.cells #[.int .i64 s, .slice C q e] 58)) := ((Below.refl _ _).alloc (Nat.le_refl _) _).alloc (by simp) _
  go_enter Try.func106, Try.ntmps106
  go_wp2_with fail
  refine (nodesOf_is _ (h.up hB0) s (h'.up hB0)).mono ?_
  rintro r w1 ⟨A1, n1, c1, rfl, O, hb1⟩
  go_wp2
  go_ret
  exact ⟨_, _, _, rfl, O.wide hB0.size (Nat.le_refl _), below_then hB0 hb1⟩
set_option maxRecDepth 4000 in
set_option maxHeartbeats 400000 in
theorem implWalkEnd_is (w : World) {A B C : Option Addr} {n c m d q e : Nat} {g : G} (h : GRd w A n B m g) (s : Int) {l : List St} (h' : SRd w C q l) :
    Calls Try.prog 100 #[.agg #[.slice A n c, .slice B m d], .agg #[.int .i64 s, .slice C q e]] w fun r w' => r = .returned (.int .i64 (endZ g s l)) ∧ Below w.heap.size w w' := by
  have hB0 : Below w.heap.size w ((w.alloc (.cells #[.slice A n c, .slice B m d] 45)).alloc (.cells #[.int .i64 s, .slice C q e] 58)) := ((Below.refl _ _).alloc (Nat.le_refl _) _).alloc (by simp) _
  have hend := endZ_at (g := g) (s := s) (l := l)
  have hno := endZ_no (g := g) (s := s) (l := l)
  have hlen := nodesZ_len (g := g) (s := s) (l := l)
  obtain ⟨ok, hok⟩ : ∃ ok, walkOk g s l = ok := ⟨_, rfl⟩
  rw [hok] at hend hno hlen
  have HE := Lib.hid hend
  have HN := Lib.hid hno
  have HL := Lib.hid hlen
  have HOK := Lib.hid hok
  clear hend hno hlen hok
  go_enter Try.func100, Try.ntmps100
  go_wp2_with fail
  refine (nodesOf_is _ (h.up hB0) s (h'.up hB0)).mono ?_
  rw [HOK.out]
  rintro r w1 ⟨A1, n1, c1, rfl, O, hb1⟩
  have hB1 := below_then hB0 hb1
  cases ok
  · have HX := Lib.hid (HN.out rfl)
    clear hb1
    go_wp2
    go_ret
    exact ⟨by rw [HX.out] <;> rfl, hB1⟩
  · have hl := HL.out rfl
    have hn1 : n1 = l.length + 1 := by have := O.len; rw [List.length_map] at this; omega
    obtain ⟨b1, rfl, _, _⟩ := O.at_ (by omega)
    have he := HE.out rfl
    have hbd := O.bd
    have hcl : w1.cell? ⟨b1, l.length, none⟩ = some (.int .i64 (endZ g s l)) := O.cell (by rw [List.getElem?_map, he]; rfl)
    obtain ⟨k, hk⟩ : ∃ k, l.length = k := ⟨_, rfl⟩
    rw [hk] at hn1 hcl
    subst hn1
    clear hl he hk hb1
    go_wp2
    go_ret
    exact ⟨rfl, hB1⟩
set_option maxRecDepth 4000 in
theorem specIsValidWalk_is (w : World) {A B C : Option Addr} {n c m d q e : Nat} {g : G} (h : GRd w A n B m g) (s : Int) {l : List St} (h' : SRd w C q l) :
    Calls Try.prog 97 #[.agg #[.slice A n c, .slice B m d], .agg #[.int .i64 s, .slice C q e]] w fun r w' => r = .returned (.bool (walkOk g s l)) ∧ Below w.heap.size w w' := by
  have hB0 : Below w.heap.size w ((w.alloc (.cells #[.slice A n c, .slice B m d] 45)).alloc (.cells #[.int .i64 s, .slice C q e] 58)) := ((Below.refl _ _).alloc (Nat.le_refl _) _).alloc (by simp) _
  go_enter Try.func97, Try.ntmps97
  go_wp2_with fail
  refine (l5Nodes_is _ (h.up hB0) s (h'.up hB0)).mono ?_
  rintro r w1 ⟨A1, n1, c1, rfl, O, hb1⟩
  go_wp2
  go_ret
  exact ⟨rfl, below_then hB0 hb1⟩
set_option maxRecDepth 4000 in
theorem specWalkNodes_is (w : World) {A B C : Option Addr} {n c m d q e : Nat} {g : G} (h : GRd w A n B m g) (s : Int) {l : List St} (h' : SRd w C q l) :
    Calls Try.prog 105 #[.agg #[.slice A n c, .slice B m d], .agg #[.int .i64 s, .slice C q e]] w fun r w' => ∃ A2 n2 c2, r = .returned (.slice A2 n2 c2) ∧ RIs w' w.heap.size w'.heap.size 3 1 A2 n2 c2 ((nodesZ g s l).map iv) ∧ Below w.heap.size w w' := by
  have hB0 : Below w.heap.size w ((w.alloc (.cells #[.slice A n c, .slice B m d] 45)).alloc (.cells #[.int .i64 s, .slice C q e] 58)) := ((Below.refl _ _).alloc (Nat.le_refl _) _).alloc (by simp) _
  go_enter Try.func105, Try.ntmps105
  go_wp2_with fail
  refine (l5Nodes_is _ (h.up hB0) s (h'.up hB0)).mono ?_
  rintro r w1 ⟨A1, n1, c1, rfl, O, hb1⟩
  go_wp2
  go_ret
  exact ⟨_, _, _, rfl, O.wide hB0.size (Nat.le_refl _), below_then hB0 hb1⟩
set_option maxRecDepth 4000 in
set_option maxHeartbeats 400000 in
theorem specWalkEnd_is (w : World) {A B C : Option Addr} {n c m d q e : Nat} {g : G} (h : GRd w A n B m g) (s : Int) {l : List St} (h' : SRd w C q l) :
    Calls Try.prog 99 #[.agg #[.slice A n c, .slice B m d], .agg #[.int .i64 s, .slice C q e]] w fun r w' => r = .returned (.int .i64 (endZ g s l)) ∧ Below w.heap.size w w' := by
  have hB0 : Below w.heap.size w ((w.alloc (.cells #[.slice A n c, .slice B m d] 45)).alloc (.cells #[.int .i64 s, .slice C q e] 58)) := ((Below.refl _ _).alloc (Nat.le_refl _) _).alloc (by simp) _
  have hend := endZ_at (g := g) (s := s) (l := l)
  have hno := endZ_no (g := g) (s := s) (l := l)
  have hlen := nodesZ_len (g := g) (s := s) (l := l)
  obtain ⟨ok, hok⟩ : ∃ ok, walkOk g s l = ok := ⟨_, rfl⟩
  rw [hok] at hend hno hlen
  have HE := Lib.hid hend
  have HN := Lib.hid hno
  have HL := Lib.hid hlen
  have HOK := Lib.hid hok
  clear hend hno hlen hok
  go_enter Try.func99, Try.ntmps99
  go_wp2_with fail
  refine (l5Nodes_is _ (h.up hB0) s (h'.up hB0)).mono ?_
  rw [HOK.out]
  rintro r w1 ⟨A1, n1, c1, rfl, O, hb1⟩
  have hB1 := below_then hB0 hb1
  cases ok
  · have HX := Lib.hid (HN.out rfl)
    clear hb1
    go_wp2
    go_ret
    exact ⟨by rw [HX.out] <;> rfl, hB1⟩
  · have hl := HL.out rfl
    have hn1 : n1 = l.length + 1 := by have := O.len; rw [List.length_map] at this; omega
    obtain ⟨b1, rfl, _, _⟩ := O.at_ (by omega)
    have he := HE.out rfl
    have hbd := O.bd
    have hcl : w1.cell? ⟨b1, l.length, none⟩ = some (.int .i64 (endZ g s l)) := O.cell (by rw [List.getElem?_map, he]; rfl)
    obtain ⟨k, hk⟩ : ∃ k, l.length = k := ⟨_, rfl⟩
    rw [hk] at hn1 hcl
    subst hn1
    clear hl he hk hb1
    go_wp2
    go_ret
    exact ⟨rfl, hB1⟩
end Go.Proofs.Ytfigilkggjokkaa
