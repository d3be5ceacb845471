/- HoldsAt of both packages. -/
import Derived.Test.YtljggmgijadjaaaStepA
namespace Go.Proofs.Ytljggmgijadjaaa
open Go.RowKit Go.ChangeShapes Go.WideShapes Go.ChangeAt Go.Deep
set_option linter.unusedVariables false
def holdsB (g : G) (node letter : Int) : Bool := validG g && inB node 0 (g.vs.length - 1) && decide (g.vs[node.toNat]? = some (letter - 6))
theorem holdsB_1 {g : G} (node letter : Int) (h : validG g = false) : holdsB g node letter = false := by simp [holdsB, h]
theorem holdsB_2 {g : G} {node : Int} (letter : Int) (h : inB node 0 (g.vs.length - 1) = false) : holdsB g node letter = false := by simp [holdsB, h]
theorem holdsB_3 {g : G} {k : Nat} {x letter : Int} (hv : validG g = true) (hx : g.vs[k]? = some x) : holdsB g (k : Int) letter = decide (x = letter - 6) := by
  have hk := (List.getElem?_eq_some_iff.1 hx).1
  have h2 : inB (k : Int) 0 (g.vs.length - 1) = true := inB_true.2 (by omega)
  simp [holdsB, hv, h2, hx]
set_option maxRecDepth 4000 in
set_option maxHeartbeats 1000000 in
theorem implHoldsAt_is (w : World) {A B : Option Addr} {n c m d : Nat} {g : G} (h : GRd w A n B m g) (node letter : Int) :
    Calls Try.prog 16 #[.agg #[.slice A n c, .slice B m d], .int .i64 node, .int .i64 letter] w fun r w' => r = .returned (.bool (holdsB g node letter)) ∧ Below w.heap.size w w' := by
  have hn := h.bn
  have hv1 := holdsB_1 (g := g) node letter
  have hv2 := holdsB_2 (g := g) (node := node) letter
  have hv3 := fun (k : Nat) x => holdsB_3 (g := g) (k := k) (x := x) (letter := letter)
  have ln := h.gr.ln
  rw [ln] at hv2
  have hval := fun hv => (valid_len (g := g) hv).2.2.2
  have hB0 : Below w.heap.size w (w.alloc (.cells #[.slice A n c, .slice B m d] 27)) := (Below.refl _ _).alloc (Nat.le_refl _) _
  have kA : (w.alloc (.cells #[.slice A n c, .slice B m d] 27)).cell? ⟨w.heap.size, 0, none⟩ = some (.slice A n c) := by go_simp
  obtain ⟨res, hres⟩ : ∃ r, holdsB g node letter = r := ⟨_, rfl⟩
  rw [hres] at hv1 hv2 ⊢
  have HR := Lib.hid hres
  have HL := Lib.hid ln
  clear hres ln
  have H1 := Lib.hid hv1
  have H2 := Lib.hid hv2
  have H3 := Lib.hid hv3
  have HV := Lib.hid hval
  clear hv1 hv2 hv3 hval
  go_enter Try.func16, Try.ntmps16
  go_wp2_with fail
  generalize (w.alloc (.cells #[.slice A n c, .slice B m d] 27)) = w0 at *
  refine (implValid_rd _ (h.up hB0)).mono ?_
  rintro r w1 ⟨rfl, hb1⟩
  have hB1 := below_then hB0 hb1
  have kA1 := cell_keep hb1 kA
  have hI := h.ints.up hB1
  clear kA
  cases hv : validG g
  · obtain rfl := H1.out hv
    clear hv
    go_wp2
    go_ret
    exact ⟨rfl, hB1⟩
  · have HX := Lib.hid (HV.out hv)
    have HVV := Lib.hid hv
    clear hv
    cases hi : inB node 0 ((n : Int) - 1)
    · obtain rfl := H2.out hi
      have HI := Lib.hid hi
      clear hi
      go_wp2_with (go_at_call 29; refine (within_any _ _ _ _).mono ?_; rw [HI.out]; rintro e w' ⟨rfl, rfl⟩)
      go_ret
      exact ⟨rfl, hB1⟩
    · obtain ⟨hi1, hi2⟩ := inB_true.1 hi
      obtain ⟨k, rfl⟩ : ∃ k : Nat, node = k := ⟨node.toNat, by omega⟩
      have hkn : k < n := by omega
      have hlt : (k : Int) < n := by omega
      have hln := HL.out
      obtain ⟨x, hx⟩ : ∃ x, g.vs[k]? = some x := ⟨_, List.getElem?_eq_getElem (by omega)⟩
      have hxb := HX.out x (List.mem_of_getElem? hx)
      have hxb1 := hxb.1
      have hxb2 := hxb.2
      have hr3 : res = decide (x = letter - 6) := by rw [← HR.out]; exact H3.out k x HVV.out hx
      have HR3 := Lib.hid hr3
      obtain ⟨ad, u, rfl, had, hu, hc⟩ := hI.rd.at_ hkn
      have hu2 : u = .int .i64 x := by
        rw [List.getElem?_map, hx] at hu
        simpa [iv] using hu.symm
      subst hu2
      have HI := Lib.hid hi
      clear hi hi1 hi2 hln hx hr3 hxb hu
      cases hl : inB letter 0 8
      · have hne := inB_false.1 hl
        have hres : res = false := by rw [HR3.out]; simp; omega
        subst hres
        have HLL := Lib.hid hl
        clear hl hne
        go_wp2_with (first | (go_at_call 29; refine (within_any _ _ _ _).mono ?_; rw [HI.out]; rintro e w' ⟨rfl, rfl⟩) | (go_at_call 30; refine (isLetter_any _ _).mono ?_; rw [HLL.out]; rintro e w' ⟨rfl, rfl⟩))
        go_ret
        exact ⟨rfl, hB1⟩
      · have HLL := Lib.hid hl
        clear hl
        by_cases hxl : x = letter - 6
        · have hq : (letter == 6 + x) = true := by simp; omega
          have hres : res = true := by rw [HR3.out]; simp [hxl]
          subst hres
          clear hxl
          go_wp2_with (first | (go_at_call 29; refine (within_any _ _ _ _).mono ?_; rw [HI.out]; rintro e w' ⟨rfl, rfl⟩) | (go_at_call 30; refine (isLetter_any _ _).mono ?_; rw [HLL.out]; rintro e w' ⟨rfl, rfl⟩))
          go_ret
          exact ⟨rfl, hB1⟩
        · have hq : (letter == 6 + x) = false := by simp; omega
          have hres : res = false := by rw [HR3.out]; simp [hxl]
          subst hres
          clear hxl
          go_wp2_with (first | (go_at_call 29; refine (within_any _ _ _ _).mono ?_; rw [HI.out]; rintro e w' ⟨rfl, rfl⟩) | (go_at_call 30; refine (isLetter_any _ _).mono ?_; rw [HLL.out]; rintro e w' ⟨rfl, rfl⟩))
          go_ret
          exact ⟨rfl, hB1⟩
set_option maxRecDepth 4000 in
set_option maxHeartbeats 1000000 in
theorem specHoldsAt_is (w : World) {A B : Option Addr} {n c m d : Nat} {g : G} (h : GRd w A n B m g) (node letter : Int) :
    Calls Try.prog 17 #[.agg #[.slice A n c, .slice B m d], .int .i64 node, .int .i64 letter] w fun r w' => r = .returned (.bool (holdsB g node letter)) ∧ Below w.heap.size w w' := by
  have hn := h.bn
  have hv1 := holdsB_1 (g := g) node letter
  have hv2 := holdsB_2 (g := g) (node := node) letter
  have hv3 := fun (k : Nat) x => holdsB_3 (g := g) (k := k) (x := x) (letter := letter)
  have ln := h.gr.ln
  rw [ln] at hv2
  have hval := fun hv => (valid_len (g := g) hv).2.2.2
  have hB0 : Below w.heap.size w (w.alloc (.cells #[.slice A n c, .slice B m d] 27)) := (Below.refl _ _).alloc (Nat.le_refl _) _
  have kA : (w.alloc (.cells #[.slice A n c, .slice B m d] 27)).cell? ⟨w.heap.size, 0, none⟩ = some (.slice A n c) := by go_simp
  obtain ⟨res, hres⟩ : ∃ r, holdsB g node letter = r := ⟨_, rfl⟩
  rw [hres] at hv1 hv2 ⊢
  have HR := Lib.hid hres
  have HL := Lib.hid ln
  clear hres ln
  have H1 := Lib.hid hv1
  have H2 := Lib.hid hv2
  have H3 := Lib.hid hv3
  have HV := Lib.hid hval
  clear hv1 hv2 hv3 hval
  go_enter Try.func17, Try.ntmps17
  go_wp2_with fail
  generalize (w.alloc (.cells #[.slice A n c, .slice B m d] 27)) = w0 at *
  refine (specValid_rd _ (h.up hB0)).mono ?_
  rintro r w1 ⟨rfl, hb1⟩
  have hB1 := below_then hB0 hb1
  have kA1 := cell_keep hb1 kA
  have hI := h.ints.up hB1
  clear kA
  cases hv : validG g
  · obtain rfl := H1.out hv
    clear hv
    go_wp2
    go_ret
    exact ⟨rfl, hB1⟩
  · have HX := Lib.hid (HV.out hv)
    have HVV := Lib.hid hv
    clear hv
    cases hi : inB node 0 ((n : Int) - 1)
    · obtain rfl := H2.out hi
      have HI := Lib.hid hi
      clear hi
      go_wp2_with (go_at_call 31; refine (l1In_any _ _ _ _).mono ?_; rw [HI.out]; rintro e w' ⟨rfl, rfl⟩)
      go_ret
      exact ⟨rfl, hB1⟩
    · obtain ⟨hi1, hi2⟩ := inB_true.1 hi
      obtain ⟨k, rfl⟩ : ∃ k : Nat, node = k := ⟨node.toNat, by omega⟩
      have hkn : k < n := by omega
      have hlt : (k : Int) < n := by omega
      have hln := HL.out
      obtain ⟨x, hx⟩ : ∃ x, g.vs[k]? = some x := ⟨_, List.getElem?_eq_getElem (by omega)⟩
      have hxb := HX.out x (List.mem_of_getElem? hx)
      have hxb1 := hxb.1
      have hxb2 := hxb.2
      have hr3 : res = decide (x = letter - 6) := by rw [← HR.out]; exact H3.out k x HVV.out hx
      have HR3 := Lib.hid hr3
      obtain ⟨ad, u, rfl, had, hu, hc⟩ := hI.rd.at_ hkn
      have hu2 : u = .int .i64 x := by
        rw [List.getElem?_map, hx] at hu
        simpa [iv] using hu.symm
      subst hu2
      have HI := Lib.hid hi
      clear hi hi1 hi2 hln hx hr3 hxb hu
      cases hl : inB letter 6 8
      · have hne := inB_false.1 hl
        have hres : res = false := by rw [HR3.out]; simp; omega
        subst hres
        have HLL := Lib.hid hl
        clear hl hne
        go_wp2_with (first | (go_at_call 31; refine (l1In_any _ _ _ _).mono ?_; rw [HI.out]; rintro e w' ⟨rfl, rfl⟩) | (go_at_call 31; refine (l1In_any _ _ _ _).mono ?_; rw [HLL.out]; rintro e w' ⟨rfl, rfl⟩))
        go_ret
        exact ⟨rfl, hB1⟩
      · have HLL := Lib.hid hl
        obtain ⟨hl1, hl2⟩ := inB_true.1 hl
        clear hl
        by_cases hxl : x = letter - 6
        · have hq : (x == letter - 6) = true := by simp; omega
          have hres : res = true := by rw [HR3.out]; simp [hxl]
          subst hres
          clear hxl
          go_wp2_with (first | (go_at_call 31; refine (l1In_any _ _ _ _).mono ?_; rw [HI.out]; rintro e w' ⟨rfl, rfl⟩) | (go_at_call 31; refine (l1In_any _ _ _ _).mono ?_; rw [HLL.out]; rintro e w' ⟨rfl, rfl⟩))
          go_ret
          exact ⟨rfl, hB1⟩
        · have hq : (x == letter - 6) = false := by simp; omega
          have hres : res = false := by rw [HR3.out]; simp [hxl]
          subst hres
          clear hxl
          go_wp2_with (first | (go_at_call 31; refine (l1In_any _ _ _ _).mono ?_; rw [HI.out]; rintro e w' ⟨rfl, rfl⟩) | (go_at_call 31; refine (l1In_any _ _ _ _).mono ?_; rw [HLL.out]; rintro e w' ⟨rfl, rfl⟩))
          go_ret
          exact ⟨rfl, hB1⟩
end Go.Proofs.Ytljggmgijadjaaa
