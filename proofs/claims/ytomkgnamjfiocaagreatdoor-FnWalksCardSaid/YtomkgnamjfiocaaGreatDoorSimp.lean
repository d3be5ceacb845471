/- IsSimplePath of both packages. -/
import Derived.Test.YtomkgnamjfiocaaGreatDoorNod2
namespace Go.Proofs.YtomkgnamjfiocaaGreatDoor
open Go.RowKit Go.ChangeShapes Go.WideShapes Go.ChangeAt Go.Deep
set_option linter.unusedVariables false
theorem simple_len (g : G) (s : Int) (l : List St) : simpleZ g s l = (walkOk g s l && decide (((ascZ (nodesZ g s l)).length : Int) = ((nodesZ g s l).length : Int))) := by
  unfold simpleZ
  congr 1
  rw [Bool.eq_iff_iff]
  simp only [decide_eq_true_eq]
  rw [← ascZ_len]
  omega
theorem nodes_bd {g : G} {s : Int} {l : List St} (h : walkOk g s l = true) : ∀ x ∈ nodesZ g s l, 0 ≤ x ∧ x ≤ 4 := by
  have hn : nodesZ g s l = s :: l.map (stTo g) := by
    unfold nodesZ nodesUp
    rw [if_pos h, List.take_length]
  simp only [walkOk, Bool.and_eq_true] at h
  obtain ⟨⟨⟨hv, hs⟩, _⟩, hu⟩ := h
  have h5 : g.vs.length ≤ 5 := by
    have h3 := hv
    simp only [validG, Bool.and_eq_true] at h3
    have := inB_true.1 h3.1.2
    omega
  have key : ∀ (j : Nat) (a : Int), (s :: l.map (stTo g))[j]? = some a → 0 ≤ a ∧ a ≤ 4 := by
    intro j
    induction j with
    | zero =>
      intro a ha
      simp at ha
      subst ha
      have := inB_true.1 hs
      omega
    | succ j ih =>
      intro a ha
      rw [List.getElem?_cons_succ, List.getElem?_map, Option.map_eq_some_iff] at ha
      obtain ⟨x, hx, rfl⟩ := ha
      have hj := (List.getElem?_eq_some_iff.1 hx).1
      have hb : ∃ b, (s :: l.map (stTo g))[j]? = some b := ⟨_, List.getElem?_eq_getElem (by simp; omega)⟩
      obtain ⟨b, hb⟩ := hb
      have hall := List.all_eq_true.1 hu j (List.mem_range.2 hj)
      simp only [hx, hb] at hall
      have hf : stFrom g x = b := by simpa using hall
      exact stTo_bd (stTo_nonneg hf (ih b hb).1).1
  intro x hx
  rw [hn] at hx
  obtain ⟨j, hj, rfl⟩ := List.mem_iff_getElem.1 hx
  exact key j _ (List.getElem?_eq_getElem hj)
theorem nodes_none {g : G} {s : Int} {l : List St} (h : walkOk g s l = false) : nodesZ g s l = [] := by simp [nodesZ, h]
theorem seen_bit {Z : List Int} (h : ∀ x ∈ Z, 0 ≤ x ∧ x ≤ 4) {k t : Nat} (hx : Z[k]? = some (t : Int)) : (maskZ (Z.take k)).testBit t = decide ((t : Int) ∈ Z.take k) := by
  rw [maskZ_bit, Bool.eq_iff_iff]
  simp only [decide_eq_true_eq]
  constructor
  · rintro ⟨y, hy, he⟩
    have := h y (List.mem_of_mem_take hy)
    rwa [show (t : Int) = y by omega]
  · intro hy
    exact ⟨_, hy, by omega⟩
theorem take_snoc {Z : List Int} {k : Nat} {x : Int} (h : Z[k]? = some x) : Z.take (k + 1) = Z.take k ++ [x] := by
  obtain ⟨hk, rfl⟩ := List.getElem?_eq_some_iff.1 h
  exact List.take_succ_eq_append_getElem hk
theorem nodup_snoc {Z : List Int} {k : Nat} {x : Int} (h : Z[k]? = some x) (hn : (Z.take k).Nodup) (hx : x ∉ Z.take k) : (Z.take (k + 1)).Nodup := by
  rw [take_snoc h, List.nodup_append]
  refine ⟨hn, by simp, fun a ha b hb => ?_⟩
  simp at hb
  subst hb
  exact fun e => hx (e ▸ ha)
theorem not_nodup {Z : List Int} {k : Nat} {x : Int} (h : Z[k]? = some x) (hx : x ∈ Z.take k) : ¬ Z.Nodup := by
  intro hn
  have h1 : (Z.take (k + 1)).Nodup := List.Sublist.nodup (List.take_sublist _ _) hn
  rw [take_snoc h, List.nodup_append] at h1
  exact h1.2.2 x hx x (by simp) rfl
set_option maxRecDepth 4000 in
set_option maxHeartbeats 2000000 in
theorem implIsSimplePath_is (w : World) {A B C : Option Addr} {n c m d q e : Nat} {g : G} (h : GRd w A n B m g) (s : Int) {l : List St} (h' : SRd w C q l) :
    Calls Tryz.prog 16 #[.agg #[.slice A n c, .slice B m d], .agg #[.int .i64 s, .slice C q e]] w fun r w' => r = .returned (.bool (simpleZ g s l)) ∧ Below w.heap.size w w' := by
  have hE := simple_len g s l
  obtain ⟨Z, hZ⟩ : ∃ Z, nodesZ g s l = Z := ⟨_, rfl⟩
  obtain ⟨ok, hok⟩ : ∃ ok, walkOk g s l = ok := ⟨_, rfl⟩
  rw [hZ, hok] at hE
  rw [hE]
  have HZ := Lib.hid hZ
  have HOK := Lib.hid hok
  clear hE hZ hok
  go_enter Tryz.func16, Tryz.ntmps16
  go_wp2_with fail
  have hB0 : Below w.heap.size w ((w.alloc (.cells #[.slice A n c, .slice B m d] 27)).alloc (.cells #[.int .i64 s, .slice C q e] 30)) := ((Below.refl _ _).alloc (Nat.le_refl _) _).alloc (by simp) _
  generalize ((w.alloc (.cells #[.slice A n c, .slice B m d] 27)).alloc (.cells #[.int .i64 s, .slice C q e] 30)) = w0 at *
  refine (nodesOf_is _ (h.up hB0) s (h'.up hB0)).mono ?_
  rw [HOK.out, HZ.out]
  rintro r w1 ⟨A1, n1, c1, rfl, I1, hb1⟩
  have hB1 := below_then hB0 hb1
  have hl : Z.length = n1 := by have := I1.len; simpa using this
  cases ok
  · go_wp2
    go_ret
    exact ⟨by simp, hB1⟩
  · have HL := Lib.hid hl
    clear hl
    go_wp2_with fail
    refine (ascending_is _ I1.ird).mono ?_
    rintro r w2 ⟨A2, c2, rfl, I2, hb2⟩
    have hB2 := below_then hB1 hb2
    obtain ⟨p, hp⟩ : ∃ p, (ascZ Z).length = p := ⟨_, rfl⟩
    rw [hp]
    have HP := Lib.hid hp
    clear hp I2
    go_wp2
    go_ret
    refine ⟨?_, hB2⟩
    rw [HP.out, HL.out]
    congr 2
theorem RIs.int_at {w : World} {a b n c k : Nat} {A : Option Addr} {xs : List Int} (h : RIs w a b 3 1 A n c (xs.map iv)) (hk : k < n) : ∃ g x, A = some ⟨g, 0, none⟩ ∧ xs[k]? = some x ∧ w.cell? ⟨g, k, none⟩ = some (.int .i64 x) := by
  obtain ⟨g, rfl, _, _⟩ := h.at_ (by omega)
  have hl : xs.length = n := by have := h.len; simpa using this
  have hx : xs[k]? = some xs[k] := List.getElem?_eq_getElem (by omega)
  exact ⟨g, _, rfl, hx, h.cell (by rw [List.getElem?_map, hx]; rfl)⟩
end Go.Proofs.YtomkgnamjfiocaaGreatDoor
