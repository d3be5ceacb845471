/- IsValidHistory of both packages. -/
import Derived.Test.YtolilkbejghocaaHist
import Derived.Test.YtolilkbejghocaaEqG
import Derived.Test.YtolilkbejghocaaSetV
import Derived.Test.YtolilkbejghocaaArgs2
namespace Go.Proofs.Ytolilkbejghocaa
open Go.RowKit Go.ChangeShapes Go.WideShapes Go.ChangeAt Go.Deep
set_option linter.unusedVariables false
def vs0 (gs : List G) : List Int := match gs with | [] => [] | g :: _ => g.vs
def gOk (gs : List G) (g : G) : Bool := validG g && eqB g.vs (vs0 gs)
def histOk (s : Int) (gs : List G) : Bool := inB gs.length 1 8 && inB s 1 (999 - gs.length + 1) && gs.all (gOk gs)
theorem all_take_succ {gs : List G} {p : G → Bool} {q : Nat} {g : G} (h : gs[q]? = some g) : (gs.take (q + 1)).all p = ((gs.take q).all p && p g) := by
  obtain ⟨h1, rfl⟩ := List.getElem?_eq_some_iff.1 h
  rw [List.take_succ_eq_append_getElem h1, List.all_append]
  simp
theorem all_false {gs : List G} {p : G → Bool} {q : Nat} {g : G} (h : gs[q]? = some g) (hp : p g = false) : gs.all p = false := by
  rw [List.all_eq_false]
  exact ⟨g, List.mem_of_getElem? h, by simp [hp]⟩
theorem vs0_at {gs : List G} {g : G} (h : gs[0]? = some g) : vs0 gs = g.vs := by
  match gs, h with
  | x :: r, h =>
    simp at h
    subst h
    rfl
theorem gs_at {l : List GV} {q : Nat} {v : GV} (h : l[q]? = some v) : (gsOf l)[q]? = some v.g := by unfold gsOf; rw [List.getElem?_map, h]; rfl
set_option maxRecDepth 4000 in
set_option maxHeartbeats 4000000 in
theorem implIsValidHistory_is (w : World) (s : Int) {D : Option Addr} {k c : Nat} {l : List GV} (h : HRd w D k l) :
    Calls Try.prog 27 #[.agg #[.int .i64 s, .slice D k c]] w fun e w' => e = .returned (.bool (histOk s (gsOf l))) ∧ Below w.heap.size w w' := by
  have hk := h.bd
  have hgl : (gsOf l).length = k := by unfold gsOf; rw [List.length_map, h.ln]
  have hE : histOk s (gsOf l) = (inB k 1 8 && inB s 1 (999 - (k : Int) + 1) && (gsOf l).all (gOk (gsOf l))) := by unfold histOk; rw [hgl]
  rw [hE]
  have HGL := Lib.hid hgl
  clear hE hgl
  have hB0 : Below w.heap.size w (w.alloc (.cells #[.int .i64 s, .slice D k c] 41)) := (Below.refl _ _).alloc (Nat.le_refl _) _
  have hw1 : IntKind.i64.wrap (999 - (k : Int) + 1) = 999 - (k : Int) + 1 := by rw [IntKind.wrap_i64]; omega
  have hw2 : IntKind.i64.wrap (999 - (k : Int)) = 999 - (k : Int) := by rw [IntKind.wrap_i64]; omega
  cases h1 : inB k 1 8
  · go_enter Try.func27, Try.ntmps27
    go_wp2_with (go_at_call 84; refine (within_any _ _ _ _).mono ?_; rintro e w' ⟨rfl, rfl⟩)
    go_ret
    exact ⟨rfl, hB0⟩
  · have hk8 := inB_true.1 h1
    cases h2 : inB s 1 (999 - (k : Int) + 1)
    · go_enter Try.func27, Try.ntmps27
      go_wp2_with (go_at_call 84; refine (within_any _ _ _ _).mono ?_; rintro e w' ⟨rfl, rfl⟩)
      go_ret
      exact ⟨rfl, hB0⟩
    · obtain ⟨b, o, rfl, had, v0, hv0, c0, _⟩ := h.at_ (j := 0) (by omega)
      have hg0 := h.gr v0 (List.mem_of_getElem? hv0)
      have hvs := vs0_at (gs_at hv0)
      obtain ⟨fA, fn, fc, fB, fm, fd, fg⟩ := v0
      dsimp only at c0 hg0 hvs
      have XH := Blk.new w 41 #[.int .i64 s, .slice (some ⟨b, o, none⟩) k c]
      have HL2 := Lib.hid h.ln
      have HVS := Lib.hid hvs
      clear hv0 hvs
      go_enter Try.func27, Try.ntmps27
      go_wp2_with (go_at_call 84; refine (within_any _ _ _ _).mono ?_; rintro e w' ⟨rfl, rfl⟩)
      clear h1 h2 hw1 hw2
      have c00 := cell_keep hB0 c0
      generalize (w.alloc (.cells #[.int .i64 s, .slice (some ⟨b, o, none⟩) k c] 41)) = w0 at *
      go_loopw [24] (fun i wr => ∃ (q : Nat) (z : Kept w0), wr = z.W ∧ q ≤ k ∧ i = .int .i64 q ∧ ((gsOf l).take q).all (gOk (gsOf l)) = true) (fun i _ => k - (intOf i).toNat)
      case atStart => exact ⟨0, ⟨w0, Below.refl _ _⟩, rfl, Nat.zero_le _, rfl, rfl⟩
      case round =>
        obtain ⟨q, z, rfl, hq, rfl, hall⟩ := hrel
        have HA := Lib.hid hall
        clear hall
        have hz0 := z.be
        have hBz := below_then hB0 z.be
        by_cases hlt : q < k
        · obtain ⟨b2, o2, hbo, _, v, hv, d0, d1⟩ := h.at_ hlt
          injection hbo with hbo
          injection hbo with hb1 hb2
          subst hb1
          subst hb2
          have hg := h.gr v (List.mem_of_getElem? hv)
          have hgv := gs_at hv
          obtain ⟨vA, vn, vc, vB, vm, vd, vg⟩ := v
          dsimp only at d0 d1 hg hgv
          have HGV := Lib.hid hgv
          have e0 := cell_keep hBz d0
          have e1 := cell_keep hBz d1
          have hlt' : (q : Int) < k := by omega
          have hk0 : (0 : Int) ≤ (q : Int) := by omega
          have hkp : (0 : Int) < (k : Int) := by omega
          have b3 : Below z.W.heap.size z.W (z.W.alloc (.cells #[.slice vA vn vc, .slice vB vm vd] 53)) := (Below.refl _ _).alloc (Nat.le_refl _) _
          have XB := Blk.new z.W 53 #[.slice vA vn vc, .slice vB vm vd]
          have hB3 := below_then hBz b3
          have XH3 := (XH.below z.be XH.lt).below b3 (XH.below z.be XH.lt).lt
          have c3 := cell_keep b3 (cell_keep z.be c00)
          obtain ⟨z3, hz3e⟩ := Kept.of z b3
          clear hv hgv d0 d1
          have hcV : ∀ x : Kept z3.W, Calls Try.prog 85 #[.agg #[.slice vA vn vc, .slice vB vm vd]] x.W fun e w' => e = .returned (.bool (validG vg)) ∧ Below x.W.heap.size x.W w' := fun x => by
            rw [hz3e] at hB3
            exact implValid_rd x.W (hg.up (below_then hB3 x.be))
          have hcE : ∀ x : Kept z3.W, Calls Try.prog 86 #[.slice vA vn vc, .slice fA fn fc] x.W fun e w' => e = .returned (.bool (eqB vg.vs fg.vs)) ∧ Below x.W.heap.size x.W w' := fun x => by
            rw [hz3e] at hB3
            have h1 := (hg.up (below_then hB3 x.be)).ints
            have h2 := (hg0.up (below_then hB3 x.be)).ints
            exact slEqInt_any vA fA vn vc fn fc vg.vs fg.vs x.W h1.ln h2.ln h1.bd h2.bd h1.rd h2.rd
          rw [hz3e] at XB XH3 c3
          have y0 := XB.kc (v := .slice vA vn vc) 0 rfl
          have y1 := XB.kc (v := .slice vB vm vd) 1 rfl
          have y2 := XH3.kc (v := .slice (some ⟨b, o, none⟩) k c) 1 rfl
          have y3 := Kept.cell c3
          simp only [Nat.zero_mul, Nat.add_zero] at y3
          have hz3 := z3.be
          cases hv : validG vg
          · have hF := all_false HGV.out (p := gOk (gsOf l)) (by simp [gOk, hv])
            rw [hv] at hcV
            have HF := Lib.hid hF
            have HCV := Lib.hid hcV
            clear hcV hcE hF hv
            go_wp2_with fail
            refine wp_region_kept (by kernel_rfl) (by kernel_rfl) ?_
            repeat (go_big_quiet_step ((go_at_call 85; exact Calls.kept (HCV.out _))))
            refine wpQuiet_nil ?_
            intro _ hw'
            obtain ⟨x4, rfl⟩ := hw'
            have hx4 := x4.be
            go_wp2
            go_ret
            exact ⟨by rw [HF.out] <;> rfl, below_then hB0 (below_then hz3 hx4)⟩
          · rw [hv] at hcV
            have HCV := Lib.hid hcV
            cases heq : eqB vg.vs fg.vs
            · have hF := all_false HGV.out (p := gOk (gsOf l)) (by simp [gOk, HVS.out, heq])
              rw [heq] at hcE
              have HF := Lib.hid hF
              have HCE := Lib.hid hcE
              clear hcV hcE hF hv heq
              go_wp2_with fail
              refine wp_region_kept (by kernel_rfl) (by kernel_rfl) ?_
              repeat (go_big_quiet_step (first | (go_at_call 85; exact Calls.kept (HCV.out _)) | (go_at_call 86; exact Calls.kept (HCE.out _))))
              refine wpQuiet_nil ?_
              intro _ hw'
              obtain ⟨x4, rfl⟩ := hw'
              have hx4 := x4.be
              go_wp2
              go_ret
              exact ⟨by rw [HF.out] <;> rfl, below_then hB0 (below_then hz3 hx4)⟩
            · have hT := all_take_succ HGV.out (p := gOk (gsOf l))
              rw [HA.out, show gOk (gsOf l) vg = true by simp [gOk, hv, HVS.out, heq]] at hT
              rw [heq] at hcE
              have HT := Lib.hid hT
              have HCE := Lib.hid hcE
              clear hcV hcE hT hv heq
              go_wp2_with fail
              refine wp_region_kept (by kernel_rfl) (by kernel_rfl) ?_
              repeat (go_big_quiet_step (first | (go_at_call 85; exact Calls.kept (HCV.out _)) | (go_at_call 86; exact Calls.kept (HCE.out _))))
              refine wpQuiet_nil ?_
              intro _ hw'
              obtain ⟨x4, rfl⟩ := hw'
              obtain ⟨z4, hz4⟩ := Kept.of z3 x4.be
              rw [hz4]
              go_wp2
              go_roundw
              case rel => exact ⟨q + 1, z4, rfl, by omega, by go_num, HT.out⟩
              case measure => simp [intOf]; omega
        · obtain rfl : q = k := by omega
          have hlt' : ¬ (q : Int) < q := by omega
          have ha := HA.out
          rw [List.take_of_length_le (by have := HGL.out; omega)] at ha
          have HA2 := Lib.hid ha
          clear ha
          go_wp2
          go_ret
          exact ⟨by rw [HA2.out] <;> rfl, hBz⟩
set_option maxRecDepth 4000 in
set_option maxHeartbeats 4000000 in
theorem specIsValidHistory_is (w : World) (s : Int) {D : Option Addr} {k c : Nat} {l : List GV} (h : HRd w D k l) :
    Calls Try.prog 26 #[.agg #[.int .i64 s, .slice D k c]] w fun e w' => e = .returned (.bool (histOk s (gsOf l))) ∧ Below w.heap.size w w' := by
  have hk := h.bd
  have hgl : (gsOf l).length = k := by unfold gsOf; rw [List.length_map, h.ln]
  have hE : histOk s (gsOf l) = (inB k 1 8 && inB s 1 (999 - (k : Int) + 1) && (gsOf l).all (gOk (gsOf l))) := by unfold histOk; rw [hgl]
  rw [hE]
  have HGL := Lib.hid hgl
  clear hE hgl
  have hB0 : Below w.heap.size w (w.alloc (.cells #[.int .i64 s, .slice D k c] 41)) := (Below.refl _ _).alloc (Nat.le_refl _) _
  have hw1 : IntKind.i64.wrap (999 - (k : Int) + 1) = 999 - (k : Int) + 1 := by rw [IntKind.wrap_i64]; omega
  have hw2 : IntKind.i64.wrap (999 - (k : Int)) = 999 - (k : Int) := by rw [IntKind.wrap_i64]; omega
  have XH := Blk.new w 41 #[.int .i64 s, .slice D k c]
  go_enter Try.func26, Try.ntmps26
  go_wp2
  generalize (w.alloc (.cells #[.int .i64 s, .slice D k c] 41)) = w0 at *
  have x0 := XH.kc (v := .int .i64 s) 0 rfl
  have x1 := XH.kc (v := .slice D k c) 1 rfl
  go_loopw [3] (fun i wr => ∃ (q : Nat) (z : Kept w0), wr = z.W ∧ q ≤ k ∧ i = .int .i64 q ∧ ((gsOf l).take q).all (gOk (gsOf l)) = true) (fun i _ => k - (intOf i).toNat)
  case atStart => exact ⟨0, ⟨w0, Below.refl _ _⟩, rfl, Nat.zero_le _, rfl, rfl⟩
  case round =>
    obtain ⟨q, z, rfl, hq, rfl, hall⟩ := hrel
    have HA := Lib.hid hall
    clear hall
    have hz0 := z.be
    have hBz := below_then hB0 z.be
    by_cases hlt : q < k
    · obtain ⟨b, o, rfl, had, v0, hv0, c0, _⟩ := h.at_ (j := 0) (by omega)
      have hg0 := h.gr v0 (List.mem_of_getElem? hv0)
      have hvs := vs0_at (gs_at hv0)
      obtain ⟨fA, fn, fc, fB, fm, fd, fg⟩ := v0
      dsimp only at c0 hg0 hvs
      have HVS := Lib.hid hvs
      obtain ⟨b2, o2, hbo, _, v, hv, d0, d1⟩ := h.at_ hlt
      injection hbo with hbo
      injection hbo with hb1 hb2
      subst hb1
      subst hb2
      have hg := h.gr v (List.mem_of_getElem? hv)
      have hgv := gs_at hv
      obtain ⟨vA, vn, vc, vB, vm, vd, vg⟩ := v
      dsimp only at d0 d1 hg hgv
      have HGV := Lib.hid hgv
      have y0 := Kept.cell (cell_keep hB0 d0)
      have y1 := Kept.cell (cell_keep hB0 d1)
      have y2 := Kept.cell (cell_keep hB0 c0)
      simp only [Nat.zero_mul, Nat.add_zero] at y2
      have hlt' : (q : Int) < k := by omega
      have hk0 : (0 : Int) ≤ (q : Int) := by omega
      have hkp : (0 : Int) < (k : Int) := by omega
      have hcV : ∀ x : Kept w0, Calls Try.prog 81 #[.agg #[.slice vA vn vc, .slice vB vm vd]] x.W fun e w' => e = .returned (.bool (validG vg)) ∧ Below x.W.heap.size x.W w' := fun x =>
        specValid_rd x.W (hg.up (below_then hB0 x.be))
      have hcE : ∀ x : Kept w0, Calls Try.prog 82 #[.slice vA vn vc, .slice fA fn fc] x.W fun e w' => e = .returned (.int .i64 (cmpL vg.vs fg.vs)) ∧ Below x.W.heap.size x.W w' := fun x => by
        have h1 := (hg.up (below_then hB0 x.be)).ints
        have h2 := (hg0.up (below_then hB0 x.be)).ints
        exact l2Cmp_gen vA fA vn vc fn fc vg.vs fg.vs x.W h1.ln h2.ln h1.bd h2.bd h1.rd h2.rd
      clear hv0 hvs hv hgv c0 d0 d1
      cases hv : validG vg
      · have hF := all_false HGV.out (p := gOk (gsOf l)) (by simp [gOk, hv])
        rw [hv] at hcV
        have HF := Lib.hid hF
        have HCV := Lib.hid hcV
        clear hcV hcE hF hv hw1 hw2
        go_wp2_with fail
        refine wp_region_k2 (by kernel_rfl) (by kernel_rfl) ?_
        repeat (go_big_quiet_step ((go_at_call 81; exact Calls.kept (HCV.out _))))
        refine wpQuiet_nil ?_
        intro _ hw'
        obtain ⟨x4, rfl⟩ := hw'
        have hx4 := x4.be
        go_wp2
        go_ret
        exact ⟨by rw [HF.out]; simp, below_then hB0 hx4⟩
      · rw [hv] at hcV
        have HCV := Lib.hid hcV
        have hz := cmpL_zero vg.vs fg.vs
        obtain ⟨cv, hcv⟩ : ∃ cv, cmpL vg.vs fg.vs = cv := ⟨_, rfl⟩
        rw [hcv] at hcE hz
        have HCE := Lib.hid hcE
        by_cases hc0 : cv = 0
        · have heq : eqB vg.vs fg.vs = true := by simp [eqB, hz.1 hc0]
          have hT := all_take_succ HGV.out (p := gOk (gsOf l))
          rw [HA.out, show gOk (gsOf l) vg = true by simp [gOk, hv, HVS.out, heq]] at hT
          have HT := Lib.hid hT
          have hne : (cv != 0) = false := by simp [hc0]
          clear hcV hcE hT hv heq hz hcv hc0 hw1 hw2
          go_wp2_with fail
          refine wp_region_k2 (by kernel_rfl) (by kernel_rfl) ?_
          repeat (go_big_quiet_step (first | (go_at_call 81; exact Calls.kept (HCV.out _)) | (go_at_call 82; exact Calls.kept (HCE.out _))))
          refine wpQuiet_nil ?_
          intro _ hw'
          obtain ⟨x4, rfl⟩ := hw'
          go_wp2
          go_roundw
          case rel => exact ⟨q + 1, x4, rfl, by omega, by go_num, HT.out⟩
          case measure => simp [intOf]; omega
        · have heq : eqB vg.vs fg.vs = false := by
            simp only [eqB, decide_eq_false_iff_not]
            exact fun e => hc0 (hz.2 e)
          have hF := all_false HGV.out (p := gOk (gsOf l)) (by simp [gOk, HVS.out, heq])
          have HF := Lib.hid hF
          have hne : (cv != 0) = true := by simp [hc0]
          clear hcV hcE hF hv heq hz hcv hc0 hw1 hw2
          go_wp2_with fail
          refine wp_region_k2 (by kernel_rfl) (by kernel_rfl) ?_
          repeat (go_big_quiet_step (first | (go_at_call 81; exact Calls.kept (HCV.out _)) | (go_at_call 82; exact Calls.kept (HCE.out _))))
          refine wpQuiet_nil ?_
          intro _ hw'
          obtain ⟨x4, rfl⟩ := hw'
          have hx4 := x4.be
          go_wp2
          go_ret
          exact ⟨by rw [HF.out]; simp, below_then hB0 hx4⟩
    · obtain rfl : q = k := by omega
      have hlt' : ¬ (q : Int) < q := by omega
      have ha := HA.out
      rw [List.take_of_length_le (by have := HGL.out; omega)] at ha
      have HA2 := Lib.hid ha
      clear ha
      cases h1 : inB q 1 8
      · go_wp2_with (go_at_call 83; refine (l1In_any _ _ _ _).mono ?_; rintro e w' ⟨rfl, rfl⟩)
        go_ret
        exact ⟨by rw [h1]; simp, hBz⟩
      · go_wp2_with (go_at_call 83; refine (l1In_any _ _ _ _).mono ?_; rintro e w' ⟨rfl, rfl⟩)
        go_ret
        exact ⟨by rw [HA2.out, h1]; simp, hBz⟩
/-- What the walk is told of a history that came in. -/
def ArgHistory (W : World) (v : Value) : Prop := ∃ (D : Option Addr) (k c : Nat) (s : Int) (l : List GV), v = .agg #[.int .i64 s, .slice D k c] ∧ HArg W D k l
section
variable {H : Type} {enc : TypeId × Value → H} {W : World} {base : Nat} {spare : Nat → Bool} {held : Bool}
theorem ci_graphL : Try.prog.cellsOf 49 = 2 := by kernel_rfl
theorem ci_schgI : Try.prog.cellsOf 46 = 1 := by kernel_rfl
theorem ci_schgE : Try.prog.cellsOf 47 = 1 := by kernel_rfl
theorem ci_hist : Try.prog.cellsOf 36 = 2 := by kernel_rfl
set_option maxRecDepth 100000 in
theorem decGV (n : Nat) (cs : List Value) (y : DataW H × List MemPlace) (h : DataW.trod enc Try.prog W base spare held n 49 cs = some y) : ∃ v : GV, cs = gvc v ∧ (GReads W v.A v.n v.B v.m v.g ∧ v.n ≤ 9223372036854775807 ∧ v.m ≤ 9223372036854775807) := by
  obtain ⟨xs, n', _, _, hl, hlen, hf⟩ := DataW.trod_struct Try.underlying49 h
  rw [ci_graphL] at hl
  match cs, hl with
  | [c0, c1], _ =>
    match xs, hlen with
    | [x0, x1], _ =>
      have h0 := hf 0 _ rfl
      have h1 := hf 1 _ rfl
      simp [ci_schgI, ci_schgE] at h0 h1
      obtain ⟨A, n1, c1', xs, rfl, l1, k1, m1, r1, w1⟩ := argRow_of (W := W) (fun x => [iv x]) (fun x => (Lit.int .i64 x).wf = true) (size := 1) (fun _ => rfl) (by decide) Try.underlying46 ci_int decI h0
      obtain ⟨B, n2, c2, es, rfl, l2, k2, m2, r2, w2⟩ := argRow_of (W := W) ec wfE (size := 4) (fun _ => rfl) (by decide) Try.underlying47 ci_edge decE h1
      rw [flatMap_one] at r1
      unfold maxLen at m1 m2
      exact ⟨⟨A, n1, c1', B, n2, c2, ⟨xs, es⟩⟩, rfl, ⟨l1, l2, r1, r2⟩, by dsimp only; omega, by dsimp only; omega⟩
set_option maxRecDepth 100000 in
theorem argHistory {b0 : Nat} {r : Reach} {v : Value} {d : DataW H} {p : List MemPlace} (hv : Value.okWide Try.prog W r b0 36 v) (h : DataW.Trod enc Try.prog W base spare held 36 v d p) : ArgHistory W v := by
  obtain ⟨v0, v1, y0, y1, n, rfl, _, _, h0, h1⟩ := Joins.open_agg2 Try.underlying36 (by kernel_rfl) ci_hist hv h
  obtain ⟨a, e0, _, w0⟩ := DataW.trod_int Try.underlying3 h0
  obtain ⟨A, n1, c1, xs, rfl, l1, k1, m1, r1, w1⟩ := argRow_of (W := W) gvc (fun v => GReads W v.A v.n v.B v.m v.g ∧ v.n ≤ 9223372036854775807 ∧ v.m ≤ 9223372036854775807) (size := 2) gvc_len (by decide) Try.underlying34 ci_graphL decGV h1
  simp at e0
  subst e0
  unfold maxLen at m1
  exact ⟨A, n1, c1, a, xs, rfl, l1, r1, w1, by omega⟩
end
end Go.Proofs.Ytolilkbejghocaa
