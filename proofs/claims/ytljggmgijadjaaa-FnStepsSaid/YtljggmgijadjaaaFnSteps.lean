/-
  FnStepsSaid: for every input the law FnSteps returns true, and its arguments read afterwards as before. No condition.
-/
import Derived.Test.YtljggmgijadjaaaStpP
import Derived.Test.YtljggmgijadjaaaFr
namespace Go.Proofs.Ytljggmgijadjaaa.fnSteps
open Go.ChangeShapes Go.WideShapes Go.ChangeAt Go.RowKit Go.Deep
open Go.ChangeMaps (open_string shut_string)
set_option linter.unusedVariables false


theorem own : ownKnob Try.prog.godebug = none := by kernel_rfl
theorem laidOut : laidOutB Try.prog = true := by kernel_rfl

set_option maxRecDepth 4000 in
set_option maxHeartbeats 16000000 in
theorem walk (W : World) (v0 : Value) (g0 : ArgBytes W v0) :
    Calls Try.prog 3 #[v0] W fun e w' => e = .returned (.bool true) ∧ Below W.heap.size W w' := by
  obtain ⟨A0, n0, cp0, bs, rfl, hl, hnc, hcm, hr⟩ := g0
  by_cases hbig : (1048576 : Int) < n0
  · have hd : decide ((1048576 : Int) < n0) = true := by simpa using hbig
    go_enter Try.func3, Try.ntmps3
    go_wp2_with fail
    refine (big_is _ _ _ _).mono ?_
    rintro e w1 ⟨rfl, rfl⟩
    go_wp2
    go_ret
    exact ⟨rfl, Below.refl _ _⟩
  · have hd : decide ((1048576 : Int) < n0) = false := by simpa using hbig
    have R0 : CRaw W A0 n0 := ⟨⟨bs, hl, hr⟩, by omega⟩
    clear hl hnc hcm hr
    go_enter Try.func3, Try.ntmps3
    go_wp2_with fail
    refine (big_is _ _ _ _).mono ?_
    rintro e w0 ⟨rfl, rfl⟩
    go_wp2_with fail
    refine (drawSteps_any w0 R0).mono ?_
    rintro e w1 ⟨A, n, c, B, m, d, node, rfl, hq, ⟨vs, es, hG⟩, hn5, hm12, b1⟩
    have bG : Below w1.heap.size w1 (w1.alloc (.cells #[.slice A n c, .slice B m d] 27)) := (Below.refl _ _).alloc (Nat.le_refl _) _
    have XG := Blk.new w1 27 #[.slice A n c, .slice B m d]
    have B2 := below_then b1 bG
    have hG2 := hG.up bG
    generalize hw2 : w1.alloc (.cells #[.slice A n c, .slice B m d] 27) = w2 at *
    generalize hgg : w1.heap.size = gb at *
    obtain ⟨g, hg⟩ : ∃ g : G, (⟨vs, es⟩ : G) = g := ⟨_, rfl⟩
    rw [hg] at hG hG2
    have HW2 := Lib.hid hw2
    have HGG := Lib.hid hgg
    clear hw2 hgg hg bG b1 hG
    obtain ⟨L, hLL⟩ : ∃ L, stepsF g node = L := ⟨_, rfl⟩
    have HLL := Lib.hid hLL
    have x0 := XG.cell 0
    have x1 := XG.cell 1
    clear hLL
    go_wp2_with fail
    rw [HW2.out, HGG.out]
    refine (implStepsFrom_is w2 hG2 node).mono ?_
    rw [HLL.out]
    rintro e w3 ⟨A2, n2, c2, rfl, I2, b3⟩
    have X3 := XG.below b3 XG.lt
    have hG3 := hG2.up b3
    have B3 := below_then B2 b3
    have S2 := I2.srd
    have hn2 := S2.bd
    have HLN := Lib.hid S2.ln
    have hlen2 : L.length = n2 := S2.ln
    clear x0 x1 XG I2
    have x0 := X3.cell 0
    have x1 := X3.cell 1
    go_wp2_with fail
    refine (specStepsFrom_is w3 hG3 node).mono ?_
    rw [HLL.out]
    rintro e w4 ⟨A3, n3, c3, rfl, I3, b4⟩
    obtain rfl : n2 = n3 := by have := I3.srd.ln; omega
    have X4 := X3.below b4 X3.lt
    have hG4 := hG3.up b4
    have B4 := below_then B3 b4
    have S4 : SRd w4 A2 n2 L := ⟨S2.ln, reads_up S2.rd b4, S2.bd⟩
    obtain ⟨y4, hy4⟩ : ∃ y : Kept w4, w4 = y.W := ⟨⟨w4, Below.refl _ _⟩, rfl⟩
    have HY4 := Lib.hid hy4
    have R4 := R0.up B4
    clear b3 b4 x0 x1 X3 hG2 hG3 B2 B3 S2 I3 hy4 hlen2
    have kA0 := X4.kc (v := .slice A n c) 0 rfl
    have kB0 := X4.kc (v := .slice B m d) 1 rfl
    go_wp2
    rw [HY4.out]
    go_loopw [6] (fun i wr => ∃ (k : Nat) (x : Kept w4), wr = x.W ∧ k ≤ n2 ∧ i = .int .i64 k) (fun i _ => n2 - (intOf i).toNat)
    case atStart => exact ⟨0, y4, rfl, Nat.zero_le _, rfl⟩
    case round =>
      obtain ⟨k, x4, rfl, hk, rfl⟩ := hrel
      by_cases hlt : k < n2
      · obtain ⟨lb, lo, rfl, hlb, s, hs, ca, cb⟩ := step_at S4.rd HLN.out hlt
        have c0' := Kept.cell ca
        have c1' := Kept.cell cb
        have hsm : s ∈ stepsF g node := by rw [HLL.out]; exact List.mem_of_getElem? hs
        have hlaw := steps_law hsm
        obtain ⟨se, si⟩ := s
        dsimp only at c0' c1' hlaw
        obtain ⟨lt, hlt0⟩ : ∃ lt, stLet g ⟨se, si⟩ = lt := ⟨_, rfl⟩
        obtain ⟨lv, hlv⟩ : ∃ lv, invL lt = lv := ⟨_, rfl⟩
        obtain ⟨tt, htt⟩ : ∃ tt, stTo g ⟨se, si⟩ = tt := ⟨_, rfl⟩
        rw [hlt0, hlv, htt] at hlaw
        obtain ⟨l1, l2, l3, l4, l5⟩ := hlaw
        have hlt' : (k : Int) < n2 := by omega
        have hk0 : (0 : Int) ≤ (k : Int) := by omega
        have HANY := Lib.hid l4
        have HFND := Lib.hid l5
        have HL1 := Lib.hid l1
        have HL2 := Lib.hid l2
        have HL3 := Lib.hid l3
        have HLT := Lib.hid hlt0
        have HLV := Lib.hid hlv
        have HTT := Lib.hid htt
        clear hs hsm ca cb l1 l2 l3 l4 l5 hlt0 hlv htt
        have u0 := c0' x4
        have u1 := c1' x4
        have bZ : Below x4.W.heap.size x4.W (x4.W.alloc (.cells #[.int .i64 0, .bool false] 33)) := (Below.refl _ _).alloc (Nat.le_refl _) _
        have z0 := cell_keep bZ u0
        have z1 := cell_keep bZ u1
        have bS : Below x4.W.heap.size x4.W (x4.W.alloc (.cells #[.int .i64 se, .bool (!si)] 33)).drew := ((Below.refl _ _).alloc (Nat.le_refl _) _).drew
        have XS : Blk (x4.W.alloc (.cells #[.int .i64 se, .bool (!si)] 33)).drew x4.W.heap.size 33 #[.int .i64 se, .bool (!si)] := (Blk.new x4.W 33 #[.int .i64 se, .bool (!si)]).drew
        have b46 := below_then x4.be bS
        have X6 := X4.below b46 X4.lt
        have hG6 := hG4.up b46
        have q0 := cell_keep bS u0
        have q1 := cell_keep bS u1
        go_wp2_with fail
        go_region
        generalize hw6 : (x4.W.alloc (.cells #[.int .i64 se, .bool (!si)] 33)).drew = w6 at *
        generalize hsb : x4.W.heap.size = sb at *
        obtain ⟨y6, hy6⟩ : ∃ y : Kept w6, w6 = y.W := ⟨⟨w6, Below.refl _ _⟩, rfl⟩
        have kA := X6.kc (v := .slice A n c) 0 rfl
        have kB := X6.kc (v := .slice B m d) 1 rfl
        have e0 := XS.kc (v := .int .i64 se) 0 rfl
        have e1 := XS.kc (v := .bool (!si)) 1 rfl
        have c0 := Kept.cell q0
        have c1 := Kept.cell q1
        have HG6 : RowKit.Hid (∀ x : Kept w6, GRd x.W A n B m g) := Lib.hid fun x => hG6.up x.be
        have HL0 : RowKit.Hid (∀ x : Kept w6, Calls Try.prog 8 #[.agg #[.slice A n c, .slice B m d], .agg #[.int .i64 se, .bool si]] x.W fun e w' => e = .returned (.int .i64 lt) ∧ Below x.W.heap.size x.W w') := Lib.hid fun x => by
          have := implStepLetter_is x.W (c := c) (d := d) (HG6.out x) ⟨se, si⟩
          rw [HLT.out] at this
          exact this
        have HSF : RowKit.Hid (∀ x : Kept w6, Calls Try.prog 9 #[.agg #[.slice A n c, .slice B m d], .agg #[.int .i64 se, .bool si]] x.W fun e w' => e = .returned (.int .i64 node) ∧ Below x.W.heap.size x.W w') := Lib.hid fun x => by
          have := implStepFrom_is x.W (c := c) (d := d) (HG6.out x) ⟨se, si⟩
          rw [HL1.out] at this
          exact this
        have HST : RowKit.Hid (∀ x : Kept w6, Calls Try.prog 10 #[.agg #[.slice A n c, .slice B m d], .agg #[.int .i64 se, .bool (!si)]] x.W fun e w' => e = .returned (.int .i64 node) ∧ Below x.W.heap.size x.W w') := Lib.hid fun x => by
          have := implStepTo_is x.W (c := c) (d := d) (HG6.out x) ⟨se, !si⟩
          rw [HL2.out] at this
          exact this
        have HSL : RowKit.Hid (∀ x : Kept w6, Calls Try.prog 8 #[.agg #[.slice A n c, .slice B m d], .agg #[.int .i64 se, .bool (!si)]] x.W fun e w' => e = .returned (.int .i64 lv) ∧ Below x.W.heap.size x.W w') := Lib.hid fun x => by
          have := implStepLetter_is x.W (c := c) (d := d) (HG6.out x) ⟨se, !si⟩
          rw [HL3.out] at this
          exact this
        have HTT2 : RowKit.Hid (∀ x : Kept w6, Calls Try.prog 10 #[.agg #[.slice A n c, .slice B m d], .agg #[.int .i64 se, .bool si]] x.W fun e w' => e = .returned (.int .i64 tt) ∧ Below x.W.heap.size x.W w') := Lib.hid fun x => by
          have := implStepTo_is x.W (c := c) (d := d) (HG6.out x) ⟨se, si⟩
          rw [HTT.out] at this
          exact this
        have HIV : RowKit.Hid (∀ x : Kept w6, Calls Try.prog 11 #[.int .i64 lt] x.W fun e w' => e = .returned (.int .i64 lv) ∧ x.W = w') := Lib.hid fun x => by
          have := specInverse_any lt x.W
          rw [HLV.out] at this
          exact this
        have HNA : RowKit.Hid (∀ x : Kept w6, Calls Try.prog 13 #[.agg #[.slice A n c, .slice B m d], .int .i64 node, .int .i64 lt] x.W fun r w' => ∃ A2 n2 c2, r = .returned (.slice A2 n2 c2) ∧ RIs w' x.W.heap.size w'.heap.size 3 1 A2 n2 c2 ((afterZ g node lt).map iv) ∧ Below x.W.heap.size x.W w') := Lib.hid fun x => implNodesAfter_is x.W (c := c) (d := d) (HG6.out x) node lt
        have HSW : RowKit.Hid (∀ x : Kept w6, Calls Try.prog 14 #[.agg #[.slice A n c, .slice B m d], .int .i64 node, .int .i64 lt] x.W fun e w' => ∃ A2 n2 c2, e = .returned (.slice A2 n2 c2) ∧ RIs w' x.W.heap.size w'.heap.size 33 2 A2 n2 c2 (stcs (stepsW g node lt)) ∧ Below x.W.heap.size x.W w') := Lib.hid fun x => implStepsWith_is x.W (c := c) (d := d) (HG6.out x) node lt
        have HY6 := Lib.hid hy6
        have HB46 := Lib.hid b46
        clear hw6 hsb hy6 bZ z0 z1 bS XS X6 hG6 q0 q1 u0 u1 kA0 kB0 c0' c1' b46 X4 hG4
        go_wp2_with fail
        rw [HY6.out]
        refine wp_region_k2 (by kernel_rfl) (by kernel_rfl) ?_
        repeat (go_big_quiet_step ((go_at_call 8; exact Calls.kept (HL0.out _))))
        refine wpQuiet_nil ?_
        intro _ hw'
        obtain ⟨z7, rfl⟩ := hw'
        go_wp2_with fail
        refine wp_region_sl [56, 57, 58, 59, 60, 61, 62, 63, 64, 65, 66, 67, 68, 69, 70, 71, 72, 73, 74, 75, 76, 77, 78, 79, 80, 81, 82, 83, 84, 85, 86, 87, 88, 89, 90, 91, 92] (JS w6 [.agg #[.slice A n c, .slice B m d], .slice (some ⟨lb, lo, none⟩) n2 c2, .int .i64 k, .pointer (some ⟨lb, lo + k * 2, none⟩), .agg #[.int .i64 se, .bool si], .int .i64 node, .int .i64 node, .bool false, .bool false, .agg #[.slice A n c, .slice B m d], .agg #[.int .i64 se, .bool (!si)], .int .i64 node, .int .i64 node, .bool false, .bool false, .bool false, .agg #[.slice A n c, .slice B m d], .agg #[.int .i64 se, .bool (!si)], .int .i64 lv, .int .i64 lt, .int .i64 lv, .bool false, .bool false, .bool false, .agg #[.slice A n c, .slice B m d], .int .i64 node, .int .i64 lt, undef, .agg #[.slice A n c, .slice B m d], .slice (some ⟨lb, lo, none⟩) n2 c2, .int .i64 k, .pointer (some ⟨lb, lo + k * 2, none⟩), .agg #[.int .i64 se, .bool si], .int .i64 tt, .bool true, .bool false, .bool false] 27 (afterZ g node lt) 56) (by kernel_rfl) (by kernel_rfl) (by decide) (by intro d hd; simp at hd; simp; omega) (by kernel_rfl) ?h0 ?hstep ?hend
        case h0 => exact ⟨⟨⟨z7.W.drew, below_then z7.be ((Below.refl _ _).drew)⟩, rfl⟩, (fun k hk => absurd hk Bool.false_ne_true)⟩
        case hstep =>
          intro i L f w' o b K ho hLi hwt hcl hJ hS HK HN
          have hi : i < 37 := by simpa using (Array.getElem?_eq_some_iff.1 ho).1
          rcases (show i = 0 ∨ i = 1 ∨ i = 2 ∨ i = 3 ∨ i = 4 ∨ i = 5 ∨ i = 6 ∨ i = 7 ∨ i = 8 ∨ i = 9 ∨ i = 10 ∨ i = 11 ∨ i = 12 ∨ i = 13 ∨ i = 14 ∨ i = 15 ∨ i = 16 ∨ i = 17 ∨ i = 18 ∨ i = 19 ∨ i = 20 ∨ i = 21 ∨ i = 22 ∨ i = 23 ∨ i = 24 ∨ i = 25 ∨ i = 26 ∨ i = 27 ∨ i = 28 ∨ i = 29 ∨ i = 30 ∨ i = 31 ∨ i = 32 ∨ i = 33 ∨ i = 34 ∨ i = 35 ∨ i = 36 by omega) with rfl | rfl | rfl | rfl | rfl | rfl | rfl | rfl | rfl | rfl | rfl | rfl | rfl | rfl | rfl | rfl | rfl | rfl | rfl | rfl | rfl | rfl | rfl | rfl | rfl | rfl | rfl | rfl | rfl | rfl | rfl | rfl | rfl | rfl | rfl | rfl | rfl
          all_goals
            simp only [List.getElem?_toArray, List.getElem?_cons_zero, List.getElem?_cons_succ, Option.some.injEq] at ho
            subst ho
            clear hi hcl
          · obtain ⟨x, rfl⟩ := hJ.k
            have s3 : b.tmps.getD 3 undef = .pointer (some ⟨gb, 0, none⟩) := hS.o 3 (by decide)
            have u0 := kA x
            have u1 := kB x
            go_simp
            exact HK.out 56 _ _ rfl (hJ.put (Below.refl _ _) (Cv.of (by decide) rfl))
          · obtain ⟨x, rfl⟩ := hJ.k
            have s5 : b.tmps.getD 5 undef = .slice (some ⟨lb, lo, none⟩) n2 c2 := hS.o 5 (by decide)
            go_simp
            exact HK.out 57 _ _ rfl (hJ.put (Below.refl _ _) (Cv.of (by decide) rfl))
          · obtain ⟨x, rfl⟩ := hJ.k
            have s6 : b.tmps.getD 6 undef = .int .i64 k := hS.o 6 (by decide)
            go_simp
            exact HK.out 58 _ _ rfl (hJ.put (Below.refl _ _) (Cv.of (by decide) rfl))
          · obtain ⟨x, rfl⟩ := hJ.k
            have s57 : b.tmps.getD 57 undef = .slice (some ⟨lb, lo, none⟩) n2 c2 := (hS.i 57 (by decide)).trans (hJ.get 1 (by decide) (hwt ⟨1, .data⟩ (by simp) rfl))
            have s58 : b.tmps.getD 58 undef = .int .i64 k := (hS.i 58 (by decide)).trans (hJ.get 2 (by decide) (hwt ⟨2, .data⟩ (by simp) rfl))
            go_simp
            exact HK.out 59 _ _ rfl (hJ.put (Below.refl _ _) (Cv.of (by decide) rfl))
          · obtain ⟨x, rfl⟩ := hJ.k
            have s59 : b.tmps.getD 59 undef = .pointer (some ⟨lb, lo + k * 2, none⟩) := (hS.i 59 (by decide)).trans (hJ.get 3 (by decide) (hwt ⟨3, .data⟩ (by simp) rfl))
            have u0 := c0 x
            have u1 := c1 x
            go_simp
            exact HK.out 60 _ _ rfl (hJ.put (Below.refl _ _) (Cv.of (by decide) rfl))
          · obtain ⟨x, rfl⟩ := hJ.k
            have s56 : b.tmps.getD 56 undef = .agg #[.slice A n c, .slice B m d] := (hS.i 56 (by decide)).trans (hJ.get 0 (by decide) (hwt ⟨0, .data⟩ (by simp) rfl))
            have s60 : b.tmps.getD 60 undef = .agg #[.int .i64 se, .bool si] := (hS.i 60 (by decide)).trans (hJ.get 4 (by decide) (hwt ⟨4, .data⟩ (by simp) rfl))
            go_simp
            refine (HSF.out x).mono ?_
            rintro e w'' ⟨rfl, hb⟩
            go_simp
            exact HK.out 61 _ _ rfl (hJ.put hb (Cv.of (by decide) rfl))
          · obtain ⟨x, rfl⟩ := hJ.k
            have s4 : b.tmps.getD 4 undef = .int .i64 node := hS.o 4 (by decide)
            go_simp
            exact HK.out 62 _ _ rfl (hJ.put (Below.refl _ _) (Cv.of (by decide) rfl))
          · obtain ⟨x, rfl⟩ := hJ.k
            have s61 : b.tmps.getD 61 undef = .int .i64 node := (hS.i 61 (by decide)).trans (hJ.get 5 (by decide) (hwt ⟨5, .data⟩ (by simp) rfl))
            have s62 : b.tmps.getD 62 undef = .int .i64 node := (hS.i 62 (by decide)).trans (hJ.get 6 (by decide) (hwt ⟨6, .data⟩ (by simp) rfl))
            go_simp
            exact HK.out 63 _ _ rfl (hJ.put (Below.refl _ _) (Cv.of (by decide) rfl))
          · obtain ⟨x, rfl⟩ := hJ.k
            have s63 : b.tmps.getD 63 undef = .bool false := (hS.i 63 (by decide)).trans (hJ.get 7 (by decide) (hwt ⟨7, .data⟩ (by simp) rfl))
            go_simp
            exact HK.out 64 _ _ rfl (hJ.put (Below.refl _ _) (Cv.of (by decide) rfl))
          · obtain ⟨x, rfl⟩ := hJ.k
            have s64 : b.tmps.getD 64 undef = .bool false := (hS.i 64 (by decide)).trans (hJ.get 8 (by decide) (hwt ⟨8, .guard⟩ (by simp) rfl))
            have s3 : b.tmps.getD 3 undef = .pointer (some ⟨gb, 0, none⟩) := hS.o 3 (by decide)
            have u0 := kA x
            have u1 := kB x
            rw [if_pos (wanted_of rfl rfl s64)]
            go_simp
            exact HK.out 65 _ _ rfl (hJ.put (Below.refl _ _) (Cv.of (by decide) rfl))
          · obtain ⟨x, rfl⟩ := hJ.k
            have s64 : b.tmps.getD 64 undef = .bool false := (hS.i 64 (by decide)).trans (hJ.get 8 (by decide) (hwt ⟨8, .guard⟩ (by simp) rfl))
            have s7 : b.tmps.getD 7 undef = .pointer (some ⟨sb, 0, none⟩) := hS.o 7 (by decide)
            have u0 := e0 x
            have u1 := e1 x
            rw [if_pos (wanted_of rfl rfl s64)]
            go_simp
            exact HK.out 66 _ _ rfl (hJ.put (Below.refl _ _) (Cv.of (by decide) rfl))
          · obtain ⟨x, rfl⟩ := hJ.k
            have s64 : b.tmps.getD 64 undef = .bool false := (hS.i 64 (by decide)).trans (hJ.get 8 (by decide) (hwt ⟨8, .guard⟩ (by simp) rfl))
            have s65 : b.tmps.getD 65 undef = .agg #[.slice A n c, .slice B m d] := (hS.i 65 (by decide)).trans (hJ.get 9 (by decide) (hwt ⟨9, .data⟩ (by simp) rfl))
            have s66 : b.tmps.getD 66 undef = .agg #[.int .i64 se, .bool (!si)] := (hS.i 66 (by decide)).trans (hJ.get 10 (by decide) (hwt ⟨10, .data⟩ (by simp) rfl))
            rw [if_pos (wanted_of rfl rfl s64)]
            go_simp
            refine (HST.out x).mono ?_
            rintro e w'' ⟨rfl, hb⟩
            go_simp
            exact HK.out 67 _ _ rfl (hJ.put hb (Cv.of (by decide) rfl))
          · obtain ⟨x, rfl⟩ := hJ.k
            have s64 : b.tmps.getD 64 undef = .bool false := (hS.i 64 (by decide)).trans (hJ.get 8 (by decide) (hwt ⟨8, .guard⟩ (by simp) rfl))
            have s4 : b.tmps.getD 4 undef = .int .i64 node := hS.o 4 (by decide)
            rw [if_pos (wanted_of rfl rfl s64)]
            go_simp
            exact HK.out 68 _ _ rfl (hJ.put (Below.refl _ _) (Cv.of (by decide) rfl))
          · obtain ⟨x, rfl⟩ := hJ.k
            have s64 : b.tmps.getD 64 undef = .bool false := (hS.i 64 (by decide)).trans (hJ.get 8 (by decide) (hwt ⟨8, .guard⟩ (by simp) rfl))
            have s67 : b.tmps.getD 67 undef = .int .i64 node := (hS.i 67 (by decide)).trans (hJ.get 11 (by decide) (hwt ⟨11, .data⟩ (by simp) rfl))
            have s68 : b.tmps.getD 68 undef = .int .i64 node := (hS.i 68 (by decide)).trans (hJ.get 12 (by decide) (hwt ⟨12, .data⟩ (by simp) rfl))
            rw [if_pos (wanted_of rfl rfl s64)]
            go_simp
            exact HK.out 69 _ _ rfl (hJ.put (Below.refl _ _) (Cv.of (by decide) rfl))
          · obtain ⟨x, rfl⟩ := hJ.k
            have s64 : b.tmps.getD 64 undef = .bool false := (hS.i 64 (by decide)).trans (hJ.get 8 (by decide) (hwt ⟨8, .data⟩ (by simp) rfl))
            have s69 : b.tmps.getD 69 undef = .bool false := (hS.i 69 (by decide)).trans (hJ.get 13 (by decide) (hwt ⟨13, .data⟩ (by simp) rfl))
            go_simp
            exact HK.out 70 _ _ rfl (hJ.put (Below.refl _ _) (Cv.of (by decide) rfl))
          · obtain ⟨x, rfl⟩ := hJ.k
            have s70 : b.tmps.getD 70 undef = .bool false := (hS.i 70 (by decide)).trans (hJ.get 14 (by decide) (hwt ⟨14, .data⟩ (by simp) rfl))
            go_simp
            exact HK.out 71 _ _ rfl (hJ.put (Below.refl _ _) (Cv.of (by decide) rfl))
          · obtain ⟨x, rfl⟩ := hJ.k
            have s71 : b.tmps.getD 71 undef = .bool false := (hS.i 71 (by decide)).trans (hJ.get 15 (by decide) (hwt ⟨15, .guard⟩ (by simp) rfl))
            have s3 : b.tmps.getD 3 undef = .pointer (some ⟨gb, 0, none⟩) := hS.o 3 (by decide)
            have u0 := kA x
            have u1 := kB x
            rw [if_pos (wanted_of rfl rfl s71)]
            go_simp
            exact HK.out 72 _ _ rfl (hJ.put (Below.refl _ _) (Cv.of (by decide) rfl))
          · obtain ⟨x, rfl⟩ := hJ.k
            have s71 : b.tmps.getD 71 undef = .bool false := (hS.i 71 (by decide)).trans (hJ.get 15 (by decide) (hwt ⟨15, .guard⟩ (by simp) rfl))
            have s7 : b.tmps.getD 7 undef = .pointer (some ⟨sb, 0, none⟩) := hS.o 7 (by decide)
            have u0 := e0 x
            have u1 := e1 x
            rw [if_pos (wanted_of rfl rfl s71)]
            go_simp
            exact HK.out 73 _ _ rfl (hJ.put (Below.refl _ _) (Cv.of (by decide) rfl))
          · obtain ⟨x, rfl⟩ := hJ.k
            have s71 : b.tmps.getD 71 undef = .bool false := (hS.i 71 (by decide)).trans (hJ.get 15 (by decide) (hwt ⟨15, .guard⟩ (by simp) rfl))
            have s72 : b.tmps.getD 72 undef = .agg #[.slice A n c, .slice B m d] := (hS.i 72 (by decide)).trans (hJ.get 16 (by decide) (hwt ⟨16, .data⟩ (by simp) rfl))
            have s73 : b.tmps.getD 73 undef = .agg #[.int .i64 se, .bool (!si)] := (hS.i 73 (by decide)).trans (hJ.get 17 (by decide) (hwt ⟨17, .data⟩ (by simp) rfl))
            rw [if_pos (wanted_of rfl rfl s71)]
            go_simp
            refine (HSL.out x).mono ?_
            rintro e w'' ⟨rfl, hb⟩
            go_simp
            exact HK.out 74 _ _ rfl (hJ.put hb (Cv.of (by decide) rfl))
          · obtain ⟨x, rfl⟩ := hJ.k
            have s71 : b.tmps.getD 71 undef = .bool false := (hS.i 71 (by decide)).trans (hJ.get 15 (by decide) (hwt ⟨15, .guard⟩ (by simp) rfl))
            have s8 : b.tmps.getD 8 undef = .int .i64 lt := hS.o 8 (by decide)
            rw [if_pos (wanted_of rfl rfl s71)]
            go_simp
            exact HK.out 75 _ _ rfl (hJ.put (Below.refl _ _) (Cv.of (by decide) rfl))
          · obtain ⟨x, rfl⟩ := hJ.k
            have s71 : b.tmps.getD 71 undef = .bool false := (hS.i 71 (by decide)).trans (hJ.get 15 (by decide) (hwt ⟨15, .guard⟩ (by simp) rfl))
            have s75 : b.tmps.getD 75 undef = .int .i64 lt := (hS.i 75 (by decide)).trans (hJ.get 19 (by decide) (hwt ⟨19, .data⟩ (by simp) rfl))
            rw [if_pos (wanted_of rfl rfl s71)]
            go_simp
            refine (HIV.out x).mono ?_
            rintro e w'' ⟨rfl, rfl⟩
            go_simp
            exact HK.out 76 _ _ rfl (hJ.put (Below.refl _ _) (Cv.of (by decide) rfl))
          · obtain ⟨x, rfl⟩ := hJ.k
            have s71 : b.tmps.getD 71 undef = .bool false := (hS.i 71 (by decide)).trans (hJ.get 15 (by decide) (hwt ⟨15, .guard⟩ (by simp) rfl))
            have s74 : b.tmps.getD 74 undef = .int .i64 lv := (hS.i 74 (by decide)).trans (hJ.get 18 (by decide) (hwt ⟨18, .data⟩ (by simp) rfl))
            have s76 : b.tmps.getD 76 undef = .int .i64 lv := (hS.i 76 (by decide)).trans (hJ.get 20 (by decide) (hwt ⟨20, .data⟩ (by simp) rfl))
            rw [if_pos (wanted_of rfl rfl s71)]
            go_simp
            exact HK.out 77 _ _ rfl (hJ.put (Below.refl _ _) (Cv.of (by decide) rfl))
          · obtain ⟨x, rfl⟩ := hJ.k
            have s71 : b.tmps.getD 71 undef = .bool false := (hS.i 71 (by decide)).trans (hJ.get 15 (by decide) (hwt ⟨15, .data⟩ (by simp) rfl))
            have s77 : b.tmps.getD 77 undef = .bool false := (hS.i 77 (by decide)).trans (hJ.get 21 (by decide) (hwt ⟨21, .data⟩ (by simp) rfl))
            go_simp
            exact HK.out 78 _ _ rfl (hJ.put (Below.refl _ _) (Cv.of (by decide) rfl))
          · obtain ⟨x, rfl⟩ := hJ.k
            have s78 : b.tmps.getD 78 undef = .bool false := (hS.i 78 (by decide)).trans (hJ.get 22 (by decide) (hwt ⟨22, .data⟩ (by simp) rfl))
            go_simp
            exact HK.out 79 _ _ rfl (hJ.put (Below.refl _ _) (Cv.of (by decide) rfl))
          · obtain ⟨x, rfl⟩ := hJ.k
            have s79 : b.tmps.getD 79 undef = .bool false := (hS.i 79 (by decide)).trans (hJ.get 23 (by decide) (hwt ⟨23, .guard⟩ (by simp) rfl))
            have s3 : b.tmps.getD 3 undef = .pointer (some ⟨gb, 0, none⟩) := hS.o 3 (by decide)
            have u0 := kA x
            have u1 := kB x
            rw [if_pos (wanted_of rfl rfl s79)]
            go_simp
            exact HK.out 80 _ _ rfl (hJ.put (Below.refl _ _) (Cv.of (by decide) rfl))
          · obtain ⟨x, rfl⟩ := hJ.k
            have s79 : b.tmps.getD 79 undef = .bool false := (hS.i 79 (by decide)).trans (hJ.get 23 (by decide) (hwt ⟨23, .guard⟩ (by simp) rfl))
            have s4 : b.tmps.getD 4 undef = .int .i64 node := hS.o 4 (by decide)
            rw [if_pos (wanted_of rfl rfl s79)]
            go_simp
            exact HK.out 81 _ _ rfl (hJ.put (Below.refl _ _) (Cv.of (by decide) rfl))
          · obtain ⟨x, rfl⟩ := hJ.k
            have s79 : b.tmps.getD 79 undef = .bool false := (hS.i 79 (by decide)).trans (hJ.get 23 (by decide) (hwt ⟨23, .guard⟩ (by simp) rfl))
            have s8 : b.tmps.getD 8 undef = .int .i64 lt := hS.o 8 (by decide)
            rw [if_pos (wanted_of rfl rfl s79)]
            go_simp
            exact HK.out 82 _ _ rfl (hJ.put (Below.refl _ _) (Cv.of (by decide) rfl))
          · obtain ⟨x, rfl⟩ := hJ.k
            have s79 : b.tmps.getD 79 undef = .bool false := (hS.i 79 (by decide)).trans (hJ.get 23 (by decide) (hwt ⟨23, .guard⟩ (by simp) rfl))
            have s80 : b.tmps.getD 80 undef = .agg #[.slice A n c, .slice B m d] := (hS.i 80 (by decide)).trans (hJ.get 24 (by decide) (hwt ⟨24, .data⟩ (by simp) rfl))
            have s81 : b.tmps.getD 81 undef = .int .i64 node := (hS.i 81 (by decide)).trans (hJ.get 25 (by decide) (hwt ⟨25, .data⟩ (by simp) rfl))
            have s82 : b.tmps.getD 82 undef = .int .i64 lt := (hS.i 82 (by decide)).trans (hJ.get 26 (by decide) (hwt ⟨26, .data⟩ (by simp) rfl))
            rw [if_pos (wanted_of rfl rfl s79)]
            go_simp
            refine (HNA.out x).mono ?_
            rintro e w'' ⟨A8, n8, c8, rfl, i8, hb⟩
            go_simp
            exact HK.out 83 _ _ rfl (hJ.put hb (Cv.at rfl i8.ird))
          · obtain ⟨x, rfl⟩ := hJ.k
            have s79 : b.tmps.getD 79 undef = .bool false := (hS.i 79 (by decide)).trans (hJ.get 23 (by decide) (hwt ⟨23, .guard⟩ (by simp) rfl))
            have s3 : b.tmps.getD 3 undef = .pointer (some ⟨gb, 0, none⟩) := hS.o 3 (by decide)
            have u0 := kA x
            have u1 := kB x
            rw [if_pos (wanted_of rfl rfl s79)]
            go_simp
            exact HK.out 84 _ _ rfl (hJ.put (Below.refl _ _) (Cv.of (by decide) rfl))
          · obtain ⟨x, rfl⟩ := hJ.k
            have s79 : b.tmps.getD 79 undef = .bool false := (hS.i 79 (by decide)).trans (hJ.get 23 (by decide) (hwt ⟨23, .guard⟩ (by simp) rfl))
            have s5 : b.tmps.getD 5 undef = .slice (some ⟨lb, lo, none⟩) n2 c2 := hS.o 5 (by decide)
            rw [if_pos (wanted_of rfl rfl s79)]
            go_simp
            exact HK.out 85 _ _ rfl (hJ.put (Below.refl _ _) (Cv.of (by decide) rfl))
          · obtain ⟨x, rfl⟩ := hJ.k
            have s79 : b.tmps.getD 79 undef = .bool false := (hS.i 79 (by decide)).trans (hJ.get 23 (by decide) (hwt ⟨23, .guard⟩ (by simp) rfl))
            have s6 : b.tmps.getD 6 undef = .int .i64 k := hS.o 6 (by decide)
            rw [if_pos (wanted_of rfl rfl s79)]
            go_simp
            exact HK.out 86 _ _ rfl (hJ.put (Below.refl _ _) (Cv.of (by decide) rfl))
          · obtain ⟨x, rfl⟩ := hJ.k
            have s79 : b.tmps.getD 79 undef = .bool false := (hS.i 79 (by decide)).trans (hJ.get 23 (by decide) (hwt ⟨23, .guard⟩ (by simp) rfl))
            have s85 : b.tmps.getD 85 undef = .slice (some ⟨lb, lo, none⟩) n2 c2 := (hS.i 85 (by decide)).trans (hJ.get 29 (by decide) (hwt ⟨29, .data⟩ (by simp) rfl))
            have s86 : b.tmps.getD 86 undef = .int .i64 k := (hS.i 86 (by decide)).trans (hJ.get 30 (by decide) (hwt ⟨30, .data⟩ (by simp) rfl))
            rw [if_pos (wanted_of rfl rfl s79)]
            go_simp
            exact HK.out 87 _ _ rfl (hJ.put (Below.refl _ _) (Cv.of (by decide) rfl))
          · obtain ⟨x, rfl⟩ := hJ.k
            have s79 : b.tmps.getD 79 undef = .bool false := (hS.i 79 (by decide)).trans (hJ.get 23 (by decide) (hwt ⟨23, .guard⟩ (by simp) rfl))
            have s87 : b.tmps.getD 87 undef = .pointer (some ⟨lb, lo + k * 2, none⟩) := (hS.i 87 (by decide)).trans (hJ.get 31 (by decide) (hwt ⟨31, .data⟩ (by simp) rfl))
            have u0 := c0 x
            have u1 := c1 x
            rw [if_pos (wanted_of rfl rfl s79)]
            go_simp
            exact HK.out 88 _ _ rfl (hJ.put (Below.refl _ _) (Cv.of (by decide) rfl))
          · obtain ⟨x, rfl⟩ := hJ.k
            have s79 : b.tmps.getD 79 undef = .bool false := (hS.i 79 (by decide)).trans (hJ.get 23 (by decide) (hwt ⟨23, .guard⟩ (by simp) rfl))
            have s84 : b.tmps.getD 84 undef = .agg #[.slice A n c, .slice B m d] := (hS.i 84 (by decide)).trans (hJ.get 28 (by decide) (hwt ⟨28, .data⟩ (by simp) rfl))
            have s88 : b.tmps.getD 88 undef = .agg #[.int .i64 se, .bool si] := (hS.i 88 (by decide)).trans (hJ.get 32 (by decide) (hwt ⟨32, .data⟩ (by simp) rfl))
            rw [if_pos (wanted_of rfl rfl s79)]
            go_simp
            refine (HTT2.out x).mono ?_
            rintro e w'' ⟨rfl, hb⟩
            go_simp
            exact HK.out 89 _ _ rfl (hJ.put hb (Cv.of (by decide) rfl))
          · obtain ⟨x, rfl⟩ := hJ.k
            have s79 : b.tmps.getD 79 undef = .bool false := (hS.i 79 (by decide)).trans (hJ.get 23 (by decide) (hwt ⟨23, .guard⟩ (by simp) rfl))
            obtain ⟨A7, n7, c7, hg7, i7⟩ := hJ.sl (hwt ⟨27, .data⟩ (by simp) rfl)
            have s83 : b.tmps.getD 83 undef = .slice A7 n7 c7 := (hS.i 83 (by decide)).trans hg7
            clear hg7
            have s89 : b.tmps.getD 89 undef = .int .i64 tt := (hS.i 89 (by decide)).trans (hJ.get 33 (by decide) (hwt ⟨33, .data⟩ (by simp) rfl))
            rw [if_pos (wanted_of rfl rfl s79)]
            go_simp
            refine (has_is x.W i7 tt).mono ?_
            rintro e w'' ⟨rfl, rfl⟩
            rw [HANY.out]
            go_simp
            exact HK.out 90 _ _ rfl (hJ.put (Below.refl _ _) (Cv.of (by decide) rfl))
          · obtain ⟨x, rfl⟩ := hJ.k
            have s79 : b.tmps.getD 79 undef = .bool false := (hS.i 79 (by decide)).trans (hJ.get 23 (by decide) (hwt ⟨23, .guard⟩ (by simp) rfl))
            have s90 : b.tmps.getD 90 undef = .bool true := (hS.i 90 (by decide)).trans (hJ.get 34 (by decide) (hwt ⟨34, .data⟩ (by simp) rfl))
            rw [if_pos (wanted_of rfl rfl s79)]
            go_simp
            exact HK.out 91 _ _ rfl (hJ.put (Below.refl _ _) (Cv.of (by decide) rfl))
          · obtain ⟨x, rfl⟩ := hJ.k
            have s79 : b.tmps.getD 79 undef = .bool false := (hS.i 79 (by decide)).trans (hJ.get 23 (by decide) (hwt ⟨23, .data⟩ (by simp) rfl))
            have s91 : b.tmps.getD 91 undef = .bool false := (hS.i 91 (by decide)).trans (hJ.get 35 (by decide) (hwt ⟨35, .data⟩ (by simp) rfl))
            go_simp
            exact HK.out 92 _ _ rfl (hJ.put (Below.refl _ _) (Cv.of (by decide) rfl))
        case hend =>
          intro L' f w' hall hJ
          have h92 : f 92 = .bool false := hJ.get 36 (by decide) (hall 36 (by decide))
          obtain ⟨z8, rfl⟩ := hJ.k
          clear hall hJ
          simp only [chs, Act.put, List.setIfInBounds_toArray, List.set_cons_zero, List.set_cons_succ, h92]
          go_wp2_with fail
          refine (HSW.out z8).mono ?_
          obtain ⟨M, hM⟩ : ∃ M, stepsW g node lt = M := ⟨_, rfl⟩
          have hfnd := HFND.out
          rw [hM] at hfnd ⊢
          have HFN := Lib.hid hfnd
          rintro e w9 ⟨A5, n5, c5, rfl, I5, b5⟩
          have S5 := I5.srd
          have hn5b := S5.bd
          have HLM := Lib.hid S5.ln
          obtain ⟨z9, hz9⟩ := z8.of b5
          have g0 : w9.cell? ⟨lb, lo + k * 2, none⟩ = some (.int .i64 se) := by rw [hz9]; exact c0 z9
          have g1 : w9.cell? ⟨lb, lo + k * 2 + 1, none⟩ = some (.bool si) := by rw [hz9]; exact c1 z9
          have hB9 : Below w4.heap.size w4 w9 := by rw [hz9]; exact below_then HB46.out z9.be
          have HB9 := Lib.hid hB9
          have c09 := Kept.cell g0
          have c19 := Kept.cell g1
          obtain ⟨y9, hy9⟩ : ∃ y : Kept w9, w9 = y.W := ⟨⟨w9, Below.refl _ _⟩, rfl⟩
          have HY9 := Lib.hid hy9
          clear hz9 hy9 hB9 b5 I5 hfnd hM g0 g1 h92 kA kB e0 e1 c0 c1
          go_wp2_with fail
          rw [HY9.out]
          go_loopw [10, 11] (fun fv i wr => ∃ (j : Nat) (x : Kept w9) (fb : Bool), wr = x.W ∧ j ≤ n5 ∧ i = .int .i64 j ∧ fv = .bool fb ∧ (M.take j).any (fun y => decide (y = (⟨se, si⟩ : St))) = fb) (fun _ i _ => n5 - (intOf i).toNat)
          case atStart => exact ⟨0, y9, false, rfl, Nat.zero_le _, rfl, rfl, rfl⟩
          case round =>
            obtain ⟨j, x9, fb, rfl, hj, rfl, rfl, hany⟩ := hrel
            have HANJ := Lib.hid hany
            clear hany
            by_cases hjl : j < n5
            · obtain ⟨mb, mo, rfl, _, y, hy, da, db⟩ := step_at S5.rd HLM.out hjl
              have d0 := Kept.cell da
              have d1 := Kept.cell db
              have hsucc : (M.take (j + 1)).any (fun y => decide (y = (⟨se, si⟩ : St))) = (fb || decide (y = ⟨se, si⟩)) := by
                rw [List.take_add_one, hy, List.any_append, HANJ.out]
                simp
              have HSU := Lib.hid hsucc
              obtain ⟨q, hq2⟩ : ∃ q, decide (y = (⟨se, si⟩ : St)) = q := ⟨_, rfl⟩
              have hEq : ∀ w, (binOp .eql 33 (.agg #[.int .i64 y.ed, .bool y.inv]) (.agg #[.int .i64 se, .bool si])).run Try.prog w = .ok (.bool q) w := fun w => by rw [← hq2]; exact eqlS_run y ⟨se, si⟩ w
              have HQ := Lib.hid hq2
              have hjl' : (j : Int) < n5 := by omega
              have hj0 : (0 : Int) ≤ (j : Int) := by omega
              obtain ⟨ye, yi⟩ := y
              dsimp only at d0 d1 hEq
              clear hsucc hq2 da db hy
              cases fb
              · go_wp2_with fail
                refine wp_region_k2 (by kernel_rfl) (by kernel_rfl) ?_
                repeat (go_big_quiet_step (fail))
                refine wpQuiet_nil ?_
                intro _ hw'
                obtain ⟨z10, rfl⟩ := hw'
                go_wp2
                go_roundw
                case rel => exact ⟨j + 1, z10, q, rfl, by omega, by go_num, rfl, by rw [HSU.out, HQ.out]; rfl⟩
                case measure => simp [intOf]; omega
              · go_wp2_with fail
                refine wp_region_k2 (by kernel_rfl) (by kernel_rfl) ?_
                repeat (go_big_quiet_step (fail))
                refine wpQuiet_nil ?_
                intro _ hw'
                obtain ⟨z10, rfl⟩ := hw'
                go_wp2
                go_roundw
                case rel => exact ⟨j + 1, z10, true, rfl, by omega, by go_num, rfl, by rw [HSU.out]; rfl⟩
                case measure => simp [intOf]; omega
            · obtain rfl : j = n5 := by omega
              have hjl' : ¬ (j : Int) < j := by omega
              have hfb := HANJ.out
              rw [List.take_of_length_le (by have := HLM.out; omega), HFN.out] at hfb
              subst hfb
              go_wp2
              go_roundw
              case rel => exact ⟨k + 1, ⟨x9.W, below_then HB9.out x9.be⟩, rfl, by omega, by go_num⟩
              case measure => simp [intOf]; omega
      · obtain rfl : k = n2 := by omega
        have hlt' : ¬ (k : Int) < k := by omega
        have Bx := below_then B4 x4.be
        have R5 := R4.up x4.be
        clear kA0 kB0 X4 hG4 S4
        go_wp2_with fail
        refine (drawHolds_any x4.W R5).mono ?_
        rintro e w5 ⟨A5, n5, c5, B5, m5, d5, node5, lt5, rfl, hq5, hp0, hp1, ⟨vs5, es5, hG5⟩, _, _, b5⟩
        have bH : Below w5.heap.size w5 (w5.alloc (.cells #[.slice A5 n5 c5, .slice B5 m5 d5] 27)) := (Below.refl _ _).alloc (Nat.le_refl _) _
        have XH := Blk.new w5 27 #[.slice A5 n5 c5, .slice B5 m5 d5]
        have hG7 := hG5.up bH
        have B7 := below_then (below_then Bx b5) bH
        generalize hw7 : w5.alloc (.cells #[.slice A5 n5 c5, .slice B5 m5 d5] 27) = w7 at *
        generalize hhb : w5.heap.size = hb at *
        obtain ⟨y7, hy7⟩ : ∃ y : Kept w7, w7 = y.W := ⟨⟨w7, Below.refl _ _⟩, rfl⟩
        have HW7 := Lib.hid (hw7.trans hy7)
        have HHB := Lib.hid hhb
        have kH := XH.kc (v := .slice A5 n5 c5) 0 rfl
        have kI := XH.kc (v := .slice B5 m5 d5) 1 rfl
        obtain ⟨hv, hhv⟩ : ∃ hv, holdsB ⟨vs5, es5⟩ node5 lt5 = hv := ⟨_, rfl⟩
        have H1 : RowKit.Hid (∀ x : Kept w7, Calls Try.prog 16 #[.agg #[.slice A5 n5 c5, .slice B5 m5 d5], .int .i64 node5, .int .i64 lt5] x.W fun r w' => r = .returned (.bool hv) ∧ Below x.W.heap.size x.W w') := Lib.hid fun x => by
          rw [← hhv]
          exact implHoldsAt_is x.W (hG7.up x.be) node5 lt5
        have H2 : RowKit.Hid (∀ x : Kept w7, Calls Try.prog 17 #[.agg #[.slice A5 n5 c5, .slice B5 m5 d5], .int .i64 node5, .int .i64 lt5] x.W fun r w' => r = .returned (.bool hv) ∧ Below x.W.heap.size x.W w') := Lib.hid fun x => by
          rw [← hhv]
          exact specHoldsAt_is x.W (hG7.up x.be) node5 lt5
        clear hw7 hhb hy7 bH XH hG5 hG7 b5 hhv
        go_wp2_with fail
        rw [HW7.out, HHB.out]
        refine wp_region_k2 (by kernel_rfl) (by kernel_rfl) ?_
        repeat (go_big_quiet_step ((first | (go_at_call 16; exact Calls.kept (H1.out _)) | (go_at_call 17; exact Calls.kept (H2.out _)))))
        refine wpQuiet_nil ?_
        intro _ hw'
        obtain ⟨z8, rfl⟩ := hw'
        have BF := below_then B7 z8.be
        go_wp2
        go_ret
        exact ⟨by simp, BF⟩

set_option maxRecDepth 100000 in
theorem lifted (os : Os) (started : os.Started) (H : Type) (enc : TypeId × Value → H) :
    ReturnsInHanded {} Try.checked os 3 .any (Rows.fnStepsSpec.pre6 enc Try.prog Try.f3 Rows.fnStepsRow.domain false) (Rows.fnStepsSpec.post enc Try.prog Try.f3 false true false false) := by
  refine returnsInHanded_of_change (C := Try.checked) own started (by as_aux_lemma => kernel_rfl) Try.func3
    (ChangeSpec.witness6 (enc := enc) (C := Try.checked) false ⟨#[], #[.slice none 0 0], []⟩ 8 (by as_aux_lemma => kernel_rfl) (by as_aux_lemma => kernel_rfl) (by as_aux_lemma => kernel_rfl) (by as_aux_lemma => kernel_rfl)) ?_
  intro W base args ds gs before hval0 hW hcnd _
  have hval : ∀ (j : Nat) t v, Try.f3.params[j]? = some t → args[j]? = some v → Value.okWide Try.prog W .any base t v := hval0
  have hW' := hW
  obtain ⟨p, q, hA0, hV, rfl, hfz, hnd⟩ := hW
  have hA : DataW.TrodAll enc Try.prog W 0 (fun _ => true) true Try.f3.params.toList args.toList ds p := hA0
  rw [Try.params3] at hA hval
  obtain ⟨v0, vs0, d0, ds0, p0, q0, hargs, rfl, rfl, h0, r0⟩ := trodAll_cons hA
  obtain ⟨rfl, rfl, rfl⟩ := trodAll_nil r0
  obtain rfl : args = #[v0] := by cases args; simp_all
  obtain ⟨rfl, rfl⟩ := trodVars_none hV
  have k0 := h0
  have lt0 : ∀ x ∈ p0, x.block < W.heap.size := by obtain ⟨m, hm⟩ := k0; exact DataW.trod_lt m _ _ _ hm
  have g0 := argBytes (hval 0 22 v0 rfl rfl) h0
  clear hA0 hval0
  refine (walk W v0 g0).mono fun e W' ⟨he, bel⟩ => ?_
  subst he
  exact ⟨_, rfl, _, _, _, [], _, [], hW', trodAll_mk1 (shut_bool Try.underlying4 _), (trodAll_cons_mk (Below.trod laidOut (by as_aux_lemma => kernel_rfl) (of_decide_eq_true (by as_aux_lemma => kernel_rfl)) k0 bel lt0) trodAll_mk0), rfl, bel.frame _, fun h => by cases h⟩

set_option maxHeartbeats 8000000 in
theorem closed : joinedFacts Try.prog 3 Try.f3 Rows.fnStepsSpec Rows.fnStepsRow = true := by
  unfold joinedFacts
  simp only [Bool.and_eq_true]
  repeat' apply And.intro
  all_goals first | with_reducible exact frMay | with_reducible exact frLifts _ rfl | with_reducible exact frMake _ rfl | (as_aux_lemma => kernel_rfl)
set_option maxRecDepth 100000 in
set_option maxHeartbeats 1000000 in
theorem over : Rows.fnStepsRow.holds Try.pinned (OpenSpec.ofChange Rows.fnStepsSpec) :=
  OpenClaim.holds_of_wide 3 Try.f3 rfl rfl rfl rfl rfl rfl rfl ⟨rfl, rfl, rfl, rfl, rfl⟩ rfl rfl rfl rfl rfl (by as_aux_lemma => kernel_rfl) Try.func3 closed
    (of_decide_eq_true (by as_aux_lemma => kernel_rfl)) (by unfold Func.isWrapper; first | (rw [if_pos (by decide +kernel)]; kernel_rfl) | (rw [if_neg (by decide +kernel)]; exact ⟨rfl, rfl⟩))
    (fun os started H enc _ => lifted os started H enc)

theorem proved : Rows.FnStepsSaid := over
end Go.Proofs.Ytljggmgijadjaaa.fnSteps
