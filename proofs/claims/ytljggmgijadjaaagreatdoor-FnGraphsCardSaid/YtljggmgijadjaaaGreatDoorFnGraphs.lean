/-
  FnGraphsCardSaid: for every input the law FnGraphs returns true, and its arguments read afterwards as before. Condition: the package variables that the row lists hold what their initialisers lay; the card ties that to the text.
-/
import Derived.Test.YtljggmgijadjaaaGreatDoorGrP
import Derived.Test.YtljggmgijadjaaaGreatDoorDrwZ
import Derived.Test.YtljggmgijadjaaaGreatDoorFmtG
import Derived.Test.YtljggmgijadjaaaGreatDoorPrsG
import Derived.Test.YtljggmgijadjaaaGreatDoorEqG3
import Derived.Test.YtljggmgijadjaaaGreatDoorSetV
import Derived.Test.YtljggmgijadjaaaGreatDoorRevG
import Derived.Test.YtljggmgijadjaaaGreatDoorBaseA
import Derived.Test.YtljggmgijadjaaaGreatDoorStepA
import Derived.Test.YtljggmgijadjaaaGreatDoorSEq
import Derived.Test.YtljggmgijadjaaaGreatDoorFr
import Derived.Test.YtljggmgijadjaaaGreatDoorCards
import Derived.Test.YtljggmgijadjaaaGreatDoorTie
import Derived.Deep.DeepHandedRow
import Derived.Lay
import Derived.SevenTiedAt
import Derived.LaidMore
import Derived.Stop.Joined
namespace Go.Proofs.YtljggmgijadjaaaGreatDoor.fnGraphs
open Go.ChangeShapes Go.WideShapes Go.ChangeAt Go.RowKit Go.Deep
open Go.ChangeMaps (open_string shut_string)
set_option linter.unusedVariables false

theorem gis_any {w : World} {lo hi : Nat} {A : Option Addr} {n c : Nat} {B : Option Addr} {m d : Nat} {g : G} (J : GIs w lo hi A n c B m d (g.vs.map iv) (ecs g.es)) : GRd w A n B m g := ⟨J.greads, J.ou.bd, J.ov.bd⟩
theorem eqG_rd (w : World) {A B A2 B2 : Option Addr} {n c m d n2 c2 m2 d2 : Nat} {g h : G} (hg : GRd w A n B m g) (hh : GRd w A2 n2 B2 m2 h) : Calls Tryz.prog 10 #[.agg #[.slice A n c, .slice B m d], .agg #[.slice A2 n2 c2, .slice B2 m2 d2]] w fun e w' => e = .returned (.bool (decide (g = h))) ∧ Below w.heap.size w w' :=
  implEqG_any A B A2 B2 n c m d n2 c2 m2 d2 g h w hg.gr hh.gr hg.bn hg.bm hh.bn hh.bm
theorem fmtG_len (g : G) : (fmtG g).length ≤ 1000 := by
  cases hv : validG g with
  | false =>
    unfold fmtG
    rw [hv]
    simp
  | true =>
    obtain ⟨h1, h2, h3⟩ := validG_iff hv
    have e1 : fmtG g = fmtV g.vs ++ fmtEs g.es := by unfold fmtG; rw [hv, if_pos rfl]; rfl
    have e2 := fmtV_len g.vs h1
    have e3 : ∀ es : List E, (fmtEs es).length ≤ 17 * es.length := by
      intro es
      induction es with
      | nil => simp [fmtEs]
      | cons e es ih =>
        have := fmtE_len e
        simp only [fmtEs, List.flatMap_cons, List.length_append, List.length_cons] at ih ⊢
        omega
    have := e3 g.es
    rw [e1, List.length_append]
    omega
structure JR (w : World) (cs : List Value) (gs : List (Option G)) (slots : List Nat) (L : Nat → Bool) (f : Nat → Value) (w' : World) : Prop where
  k : ∃ x : Kept w, w' = x.W
  v : ∀ k, k < slots.length → L k = true → Gv cs gs k (f (slots.getD k 0)) w'
theorem JR.put {w w' w'' : World} {cs : List Value} {gs : List (Option G)} {slots : List Nat} {i : Nat} {L : Nat → Bool} {f : Nat → Value} {x : Value} (h : JR w cs gs slots L f w') (hn : ∀ a, a < slots.length → ∀ b, b < slots.length → slots.getD a 0 = slots.getD b 0 → a = b) (hi : i < slots.length) (hb : Below w'.heap.size w' w'') (hx : Gv cs gs i x w'') : JR w cs gs slots (fun k => decide (k = i) || L k) (upd f (slots.getD i 0) x) w'' := by
  obtain ⟨y, rfl⟩ := h.k
  refine ⟨⟨⟨w'', below_then y.be hb⟩, rfl⟩, fun k hkl hk => ?_⟩
  by_cases hki : k = i
  · subst hki
    rw [upd_same]
    exact hx
  · rw [upd_ne f x (fun e => hki (hn k hkl i hi e))]
    exact (h.v k hkl (by simpa [hki] using hk)).up hb

theorem own : ownKnob Tryz.prog.godebug = none := by kernel_rfl
theorem laidOut : laidOutB Tryz.prog = true := by kernel_rfl

set_option maxRecDepth 4000 in
set_option maxHeartbeats 32000000 in
theorem walk (W : World) (hS : W.ShapedOpen Tryz.prog) (hL : laidMet Tryz.prog Rows.fnGraphsRow.laid W) (v0 : Value) (g0 : ArgBytes W v0) :
    Calls Tryz.prog 3 #[v0] W fun e w' => e = .returned (.bool true) ∧ Below W.heap.size W w' := by
  have TP : TabP W := tabP_of hL.tail.tail
  have TE : TabE W := tabE_of hL.tail.tail.tail.tail.tail
  have TM : TabM W := tabM_of hS
  clear hL hS
  obtain ⟨A0, n0, cp0, bs, rfl, hl, hnc, hcm, hr⟩ := g0
  by_cases hbig : (1048576 : Int) < n0
  · have hd : decide ((1048576 : Int) < n0) = true := by simpa using hbig
    go_enter Tryz.func3, Tryz.ntmps3
    go_wp2_with fail
    refine (big_is _ _ _ _).mono ?_
    rintro e w1 ⟨rfl, rfl⟩
    go_wp2
    go_ret
    exact ⟨rfl, Below.refl _ _⟩
  · have hd : decide ((1048576 : Int) < n0) = false := by simpa using hbig
    have R0 : CRaw W A0 n0 := ⟨⟨bs, hl, hr⟩, by omega⟩
    clear hl hnc hcm hr
    go_enter Tryz.func3, Tryz.ntmps3
    go_wp2_with fail
    refine (big_is _ _ _ _).mono ?_
    rintro e w0 ⟨rfl, rfl⟩
    go_wp2_with fail
    refine (drawInsert_any w0 R0).mono ?_
    rintro e w1 ⟨A, n, c, B, m, d, x, rfl, hmd, ⟨vs, es, G3⟩, hn5, hm12, hb⟩
    obtain ⟨g, hg⟩ : ∃ g : G, (⟨vs, es⟩ : G) = g := ⟨_, rfl⟩
    rw [hg] at G3
    clear hg
    have Bw1 := hb
    clear hb
    have bA : Below w1.heap.size w1 (w1.alloc (.cells #[.slice A n c, .slice B m d] 27)) := (Below.refl _ _).alloc (Nat.le_refl _) _
    have Xg3 := Blk.new w1 27 #[.slice A n c, .slice B m d]
    have BN := below_then Bw1 bA
    replace G3 := G3.up bA
    clear bA Bw1
    generalize hwg3 : w1.alloc (.cells #[.slice A n c, .slice B m d] 27) = w2 at *
    generalize hhg3 : w1.heap.size = bg3 at *
    have HWg3 := Lib.hid hwg3
    have HHg3 := Lib.hid hhg3
    clear hwg3 hhg3
    have Bw2 := BN
    clear BN
    have bA : Below w2.heap.size w2 (w2.alloc (.cells #[.int .i64 x.id, .int .i64 x.fr, .int .i64 x.to, .int .i64 x.lb] 29)) := (Below.refl _ _).alloc (Nat.le_refl _) _
    have Xe4 := Blk.new w2 29 #[.int .i64 x.id, .int .i64 x.fr, .int .i64 x.to, .int .i64 x.lb]
    have BN := below_then Bw2 bA
    replace Xg3 := Xg3.below bA Xg3.lt
    replace G3 := G3.up bA
    clear bA Bw2
    generalize hwe4 : w2.alloc (.cells #[.int .i64 x.id, .int .i64 x.fr, .int .i64 x.to, .int .i64 x.lb] 29) = w3 at *
    have hsz : w2.heap.size = bg3 + 1 := by rw [← HWg3.out, World.size_alloc, HHg3.out]
    rw [hsz] at Xe4
    clear hsz
    generalize hhe4 : bg3 + 1 = be4 at *
    have HWe4 := Lib.hid hwe4
    have HHe4 := Lib.hid hhe4
    clear hwe4 hhe4
    have Bw3 := BN
    clear BN
    obtain ⟨is, his⟩ : ∃ is, (insG g x).2 = is := ⟨_, rfl⟩
    obtain ⟨gx, hgx⟩ : ∃ gx, (insG g x).1 = gx := ⟨_, rfl⟩
    have hlaw : is = true → validG gx = true ∧ (∃ k : Nat, ixE gx.es x.id = (k : Int) ∧ gx.es[k]? = some x) ∧ delG gx x.id = (g, true) := by
      intro h
      have hok : insOk g x = true := by
        cases ho : insOk g x with
        | true => rfl
        | false =>
          rw [insG_no ho] at his
          rw [← his] at h
          cases h
      obtain ⟨a1, _, a3, a4⟩ := insG_law hok
      rw [hgx] at a1 a3 a4
      exact ⟨a1, a3, a4⟩
    have HLAW := Lib.hid hlaw
    clear hlaw
    have i1 := fun w (h : GRd w A n B m g) => implInsertEdge_is w (c := c) (d := d) h x
    have i2 := fun w (h : GRd w A n B m g) => specInsertEdge_is w (c := c) (d := d) h x hmd
    simp only [his, hgx] at i1 i2
    have I1 := Lib.hid i1
    have I2 := Lib.hid i2
    clear i1 i2 his hgx
    have lg30 := Xg3.cell 0
    have lg31 := Xg3.cell 1
    have le40 := Xe4.cell 0
    have le41 := Xe4.cell 1
    have le42 := Xe4.cell 2
    have le43 := Xe4.cell 3
    go_wp2_with fail
    rw [HWg3.out, HHg3.out, HWe4.out, HHe4.out]
    refine (I1.out _ G3).mono ?_
    rintro e w4 ⟨A5, n5, c5, B5, m5, d5, rfl, J5, hb⟩
    clear lg30 lg31 le40 le41 le42 le43
    have Bw4 := below_then Bw3 hb
    replace Xg3 := Xg3.below hb Xg3.lt
    replace Xe4 := Xe4.below hb Xe4.lt
    replace G3 := G3.up hb
    clear hb
    clear Bw3
    have G5 := gis_any J5
    clear J5
    have bA : Below w4.heap.size w4 (w4.alloc (.cells #[.slice A5 n5 c5, .slice B5 m5 d5] 27)) := (Below.refl _ _).alloc (Nat.le_refl _) _
    have Xg5 := Blk.new w4 27 #[.slice A5 n5 c5, .slice B5 m5 d5]
    have BN := below_then Bw4 bA
    replace Xg3 := Xg3.below bA Xg3.lt
    replace Xe4 := Xe4.below bA Xe4.lt
    replace G3 := G3.up bA
    replace G5 := G5.up bA
    clear bA Bw4
    generalize hwg5 : w4.alloc (.cells #[.slice A5 n5 c5, .slice B5 m5 d5] 27) = w5 at *
    generalize hhg5 : w4.heap.size = bg5 at *
    have HWg5 := Lib.hid hwg5
    have HHg5 := Lib.hid hhg5
    clear hwg5 hhg5
    have Bw5 := BN
    clear BN
    have lg30 := Xg3.cell 0
    rw [← HWg5.out] at lg30
    have lg31 := Xg3.cell 1
    rw [← HWg5.out] at lg31
    have le40 := Xe4.cell 0
    rw [← HWg5.out] at le40
    have le41 := Xe4.cell 1
    rw [← HWg5.out] at le41
    have le42 := Xe4.cell 2
    rw [← HWg5.out] at le42
    have le43 := Xe4.cell 3
    rw [← HWg5.out] at le43
    go_wp2_with fail
    rw [HWg5.out, HHg5.out]
    refine (I2.out _ G3).mono ?_
    rintro e w6 ⟨A7, n7, c7, B7, m7, d7, rfl, J7, hb⟩
    clear lg30 lg31 le40 le41 le42 le43
    have Bw6 := below_then Bw5 hb
    replace Xg3 := Xg3.below hb Xg3.lt
    replace Xe4 := Xe4.below hb Xe4.lt
    replace Xg5 := Xg5.below hb Xg5.lt
    replace G3 := G3.up hb
    replace G5 := G5.up hb
    clear hb
    clear Bw5
    have G7 := gis_any J7
    clear J7 I1 I2
    have bA : Below w6.heap.size w6 (w6.alloc (.cells #[.slice A7 n7 c7, .slice B7 m7 d7] 27)) := (Below.refl _ _).alloc (Nat.le_refl _) _
    have Xg7 := Blk.new w6 27 #[.slice A7 n7 c7, .slice B7 m7 d7]
    have BN := below_then Bw6 bA
    replace Xg3 := Xg3.below bA Xg3.lt
    replace Xe4 := Xe4.below bA Xe4.lt
    replace Xg5 := Xg5.below bA Xg5.lt
    replace G3 := G3.up bA
    replace G5 := G5.up bA
    replace G7 := G7.up bA
    clear bA Bw6
    generalize hwg7 : w6.alloc (.cells #[.slice A7 n7 c7, .slice B7 m7 d7] 27) = w7 at *
    generalize hhg7 : w6.heap.size = bg7 at *
    have HWg7 := Lib.hid hwg7
    have HHg7 := Lib.hid hhg7
    clear hwg7 hhg7
    have Bw7 := BN
    clear BN
    have lg50 := Xg5.cell 0
    rw [← HWg7.out] at lg50
    have lg51 := Xg5.cell 1
    rw [← HWg7.out] at lg51
    have lg70 := Xg7.cell 0
    have lg71 := Xg7.cell 1
    go_wp2_with fail
    rw [HWg7.out, HHg7.out]
    refine (eqG_rd _ (c := c5) (d := d5) (c2 := c7) (d2 := d7) G5 G7).mono ?_
    rintro e w8 ⟨rfl, hb⟩
    clear lg50 lg51 lg70 lg71
    rw [decide_eq_true rfl]
    have Bw8 := below_then Bw7 hb
    replace Xg3 := Xg3.below hb Xg3.lt
    replace Xe4 := Xe4.below hb Xe4.lt
    replace Xg5 := Xg5.below hb Xg5.lt
    replace Xg7 := Xg7.below hb Xg7.lt
    replace G3 := G3.up hb
    replace G5 := G5.up hb
    replace G7 := G7.up hb
    clear hb
    clear Bw7
    clear Xg7 G7
    cases is
    · clear Xg5 G5 HLAW Xe4
      obtain ⟨F, hF⟩ : ∃ F, fmtG g = F := ⟨_, rfl⟩
      obtain ⟨Z, hZ⟩ : ∃ Z : ByteArray, (⟨F.toArray⟩ : ByteArray) = Z := ⟨_, rfl⟩
      have hZe : Z.data.toList = fmtG g := by subst hZ; rw [hF]
      have hZs : Z.size ≤ 1048576 := by
        rw [Lib.size_eq, hZe]
        have := fmtG_len g
        omega
      have hgb := graph_back g
      obtain ⟨vb, hvb⟩ : ∃ vb, validG g = vb := ⟨_, rfl⟩
      obtain ⟨gz, hgz⟩ : ∃ gz, prsGr (fmtG g) = gz := ⟨_, rfl⟩
      rw [hvb, hgz] at hgb
      have f1 := fun w (h : GRd w A n B m g) TP => implFormatGraph_is w (c := c) (d := d) h TP
      simp only [hF, hZ] at f1
      have F1 := Lib.hid f1
      have p1 := fun w TP TE TM => implParseGraph_is w Z TP TE TM hZs
      simp only [hZe, hgb.1, hgz] at p1
      have P1 := Lib.hid p1
      have v1 := fun w (h : GRd w A n B m g) => specValid_rd w (c := c) (d := d) h
      simp only [hvb] at v1
      have V1 := Lib.hid v1
      have HGB := Lib.hid hgb.2
      clear f1 p1 v1 hF hZ hZe hZs hgb hvb hgz
      have lg30 := Xg3.cell 0
      have lg31 := Xg3.cell 1
      go_wp2_with fail
      refine (F1.out _ G3 (TP.up Bw8)).mono ?_
      rintro e w9 ⟨rfl, hb⟩
      clear lg30 lg31
      have Bw9 := below_then Bw8 hb
      replace Xg3 := Xg3.below hb Xg3.lt
      replace G3 := G3.up hb
      clear hb
      clear Bw8
      go_wp2_with fail
      refine (P1.out _ (TP.up Bw9) (TE.up Bw9) (TM.up Bw9)).mono ?_
      rintro e w10 ⟨A13, n13, c13, B13, m13, d13, rfl, J13, hb⟩
      have Bw10 := below_then Bw9 hb
      replace Xg3 := Xg3.below hb Xg3.lt
      replace G3 := G3.up hb
      clear hb
      clear Bw9
      have G13 := gis_any J13
      clear J13
      have bA : Below w10.heap.size w10 (w10.alloc (.cells #[.slice A13 n13 c13, .slice B13 m13 d13] 27)) := (Below.refl _ _).alloc (Nat.le_refl _) _
      have Xg13 := Blk.new w10 27 #[.slice A13 n13 c13, .slice B13 m13 d13]
      have BN := below_then Bw10 bA
      replace Xg3 := Xg3.below bA Xg3.lt
      replace G3 := G3.up bA
      replace G13 := G13.up bA
      clear bA Bw10
      generalize hwg13 : w10.alloc (.cells #[.slice A13 n13 c13, .slice B13 m13 d13] 27) = w11 at *
      generalize hhg13 : w10.heap.size = bg13 at *
      have HWg13 := Lib.hid hwg13
      have HHg13 := Lib.hid hhg13
      clear hwg13 hhg13
      have Bw11 := BN
      clear BN
      have lg30 := Xg3.cell 0
      rw [← HWg13.out] at lg30
      have lg31 := Xg3.cell 1
      rw [← HWg13.out] at lg31
      go_wp2_with fail
      rw [HWg13.out, HHg13.out]
      refine (V1.out _ G3).mono ?_
      rintro e w12 ⟨rfl, hb⟩
      clear lg30 lg31
      have Bw12 := below_then Bw11 hb
      replace Xg3 := Xg3.below hb Xg3.lt
      replace Xg13 := Xg13.below hb Xg13.lt
      replace G3 := G3.up hb
      replace G13 := G13.up hb
      clear hb
      clear Bw11
      clear F1 P1 V1
      cases vb
      · clear Xg3 Xg13 G3 G13 HGB
        go_wp2_with fail
        refine (drawParseE_any w12 (R0.up Bw12)).mono ?_
        rintro e w13 ⟨T, rfl, hT, hb⟩
        have Bw13 := below_then Bw12 hb
        clear hb
        clear Bw12
        obtain ⟨y, hy⟩ : ∃ y, prsEN T.data.toList = y := ⟨_, rfl⟩
        obtain ⟨ok, hok⟩ : ∃ ok, prsEB T.data.toList = ok := ⟨_, rfl⟩
        have hbk : ok = true → fmtE y = T.data.toList := fun h => by rw [← hy]; exact edge_back (hok.trans h)
        have p1 := fun w TP TE TM => implParseEdge_any w TP TE TM T (by omega)
        simp only [hy, hok] at p1
        have P1 := Lib.hid p1
        have HBK := Lib.hid hbk
        clear p1 hy hok hbk
        go_wp2_with fail
        refine (P1.out _ (TP.up Bw13) (TE.up Bw13) (TM.up Bw13)).mono ?_
        rintro e w14 ⟨rfl, hb⟩
        have Bw14 := below_then Bw13 hb
        clear hb
        clear Bw13
        have bA : Below w14.heap.size w14 (w14.alloc (.cells #[.int .i64 y.id, .int .i64 y.fr, .int .i64 y.to, .int .i64 y.lb] 29)) := (Below.refl _ _).alloc (Nat.le_refl _) _
        have Xe16 := Blk.new w14 29 #[.int .i64 y.id, .int .i64 y.fr, .int .i64 y.to, .int .i64 y.lb]
        have BN := below_then Bw14 bA
        clear bA Bw14
        generalize hwe16 : w14.alloc (.cells #[.int .i64 y.id, .int .i64 y.fr, .int .i64 y.to, .int .i64 y.lb] 29) = w15 at *
        generalize hhe16 : w14.heap.size = be16 at *
        have HWe16 := Lib.hid hwe16
        have HHe16 := Lib.hid hhe16
        clear hwe16 hhe16
        have Bw15 := BN
        clear BN
        clear P1
        cases ok
        · clear Xe16 HBK
          go_wp2_with fail
          rw [HWe16.out, HHe16.out]
          refine (drawSet_any w15 (R0.up Bw15)).mono ?_
          rintro e w16 ⟨A8, n8, c8, B8, m8, d8, p8, q8, rfl, ⟨vs8, es8, G8⟩, _, _, hb⟩
          obtain ⟨h8, hh8⟩ : ∃ g : G, (⟨vs8, es8⟩ : G) = g := ⟨_, rfl⟩
          rw [hh8] at G8
          clear hh8
          have Bw16 := below_then Bw15 hb
          clear hb
          clear Bw15
          have bA : Below w16.heap.size w16 (w16.alloc (.cells #[.slice A8 n8 c8, .slice B8 m8 d8] 27)) := (Below.refl _ _).alloc (Nat.le_refl _) _
          have Xg18 := Blk.new w16 27 #[.slice A8 n8 c8, .slice B8 m8 d8]
          have BN := below_then Bw16 bA
          replace G8 := G8.up bA
          clear bA Bw16
          generalize hwg18 : w16.alloc (.cells #[.slice A8 n8 c8, .slice B8 m8 d8] 27) = w17 at *
          generalize hhg18 : w16.heap.size = bg18 at *
          have HWg18 := Lib.hid hwg18
          have HHg18 := Lib.hid hhg18
          clear hwg18 hhg18
          have Bw17 := BN
          clear BN
          obtain ⟨st, hst⟩ : ∃ st, (setG h8 p8 q8).2 = st := ⟨_, rfl⟩
          obtain ⟨gs, hgs⟩ : ∃ gs, (setG h8 p8 q8).1 = gs := ⟨_, rfl⟩
          have i1 := fun w (h : GRd w A8 n8 B8 m8 h8) => implSetValue_is w (c := c8) (d := d8) h p8 q8
          have i2 := fun w (h : GRd w A8 n8 B8 m8 h8) => specSetValue_is w (c := c8) (d := d8) h p8 q8
          simp only [hst, hgs] at i1 i2
          have I1 := Lib.hid i1
          have I2 := Lib.hid i2
          clear i1 i2 hst hgs
          have lg180 := Xg18.cell 0
          have lg181 := Xg18.cell 1
          go_wp2_with fail
          rw [HWg18.out, HHg18.out]
          refine (I1.out _ G8).mono ?_
          rintro e w18 ⟨A21, n21, c21, B21, m21, d21, rfl, J21, hb⟩
          clear lg180 lg181
          have Bw18 := below_then Bw17 hb
          replace Xg18 := Xg18.below hb Xg18.lt
          replace G8 := G8.up hb
          clear hb
          clear Bw17
          have G21 := gis_any J21
          clear J21
          have bA : Below w18.heap.size w18 (w18.alloc (.cells #[.slice A21 n21 c21, .slice B21 m21 d21] 27)) := (Below.refl _ _).alloc (Nat.le_refl _) _
          have Xg21 := Blk.new w18 27 #[.slice A21 n21 c21, .slice B21 m21 d21]
          have BN := below_then Bw18 bA
          replace Xg18 := Xg18.below bA Xg18.lt
          replace G8 := G8.up bA
          replace G21 := G21.up bA
          clear bA Bw18
          generalize hwg21 : w18.alloc (.cells #[.slice A21 n21 c21, .slice B21 m21 d21] 27) = w19 at *
          generalize hhg21 : w18.heap.size = bg21 at *
          have HWg21 := Lib.hid hwg21
          have HHg21 := Lib.hid hhg21
          clear hwg21 hhg21
          have Bw19 := BN
          clear BN
          have lg180 := Xg18.cell 0
          rw [← HWg21.out] at lg180
          have lg181 := Xg18.cell 1
          rw [← HWg21.out] at lg181
          go_wp2_with fail
          rw [HWg21.out, HHg21.out]
          refine (I2.out _ G8).mono ?_
          rintro e w20 ⟨A23, n23, c23, B23, m23, d23, rfl, J23, hb⟩
          clear lg180 lg181
          have Bw20 := below_then Bw19 hb
          replace Xg18 := Xg18.below hb Xg18.lt
          replace Xg21 := Xg21.below hb Xg21.lt
          replace G8 := G8.up hb
          replace G21 := G21.up hb
          clear hb
          clear Bw19
          have G23 := gis_any J23
          clear J23 I1 I2
          have bA : Below w20.heap.size w20 (w20.alloc (.cells #[.slice A23 n23 c23, .slice B23 m23 d23] 27)) := (Below.refl _ _).alloc (Nat.le_refl _) _
          have Xg23 := Blk.new w20 27 #[.slice A23 n23 c23, .slice B23 m23 d23]
          have BN := below_then Bw20 bA
          replace Xg18 := Xg18.below bA Xg18.lt
          replace Xg21 := Xg21.below bA Xg21.lt
          replace G8 := G8.up bA
          replace G21 := G21.up bA
          replace G23 := G23.up bA
          clear bA Bw20
          generalize hwg23 : w20.alloc (.cells #[.slice A23 n23 c23, .slice B23 m23 d23] 27) = w21 at *
          generalize hhg23 : w20.heap.size = bg23 at *
          have HWg23 := Lib.hid hwg23
          have HHg23 := Lib.hid hhg23
          clear hwg23 hhg23
          have Bw21 := BN
          clear BN
          obtain ⟨y9, hy9⟩ : ∃ y : Kept w21, w21 = y.W := ⟨⟨w21, Below.refl _ _⟩, rfl⟩
          have HY9 := Lib.hid hy9
          clear hy9
          have kg180 := Xg18.kc (v := .slice A8 n8 c8) 0 rfl
          have kg181 := Xg18.kc (v := .slice B8 m8 d8) 1 rfl
          have kg210 := Xg21.kc (v := .slice A21 n21 c21) 0 rfl
          have kg211 := Xg21.kc (v := .slice B21 m21 d21) 1 rfl
          have kg230 := Xg23.kc (v := .slice A23 n23 c23) 0 rfl
          have kg231 := Xg23.kc (v := .slice B23 m23 d23) 1 rfl
          have HG8 : RowKit.Hid (∀ x : Kept w21, GRd x.W A8 n8 B8 m8 h8) := Lib.hid fun x => G8.up x.be
          have HG21 : RowKit.Hid (∀ x : Kept w21, GRd x.W A21 n21 B21 m21 gs) := Lib.hid fun x => G21.up x.be
          have HG23 : RowKit.Hid (∀ x : Kept w21, GRd x.W A23 n23 B23 m23 gs) := Lib.hid fun x => G23.up x.be
          clear Xg18 Xg21 Xg23 G8 G21 G23
          cases st
          · go_wp2_with fail
            rw [HWg23.out, HHg23.out, HY9.out]
            refine wp_region_sl [145, 146, 147, 148, 149, 150, 151, 152, 153, 154, 155, 156, 157, 158, 159, 2] (JR w21 [.bool false, .bool false, .bool true, .bool true, .agg #[.slice A21 n21 c21, .slice B21 m21 d21], .agg #[.slice A23 n23 c23, .slice B23 m23 d23], .bool true, .bool true, .bool true, .agg #[.slice A8 n8 c8, .slice B8 m8 d8], undef, undef, .agg #[.slice A8 n8 c8, .slice B8 m8 d8], .bool true, .bool true, .bool true] [none, none, none, none, none, none, none, none, none, none, some (revG h8), some (revG (revG h8)), none, none, none, none] [145, 146, 147, 148, 149, 150, 151, 152, 153, 154, 155, 156, 157, 158, 159, 2]) (by kernel_rfl) (by kernel_rfl) (by decide) (by intro d hd; simp at hd; simp; omega) (by kernel_rfl) ?h0 ?hstep ?hend
            case h0 => exact ⟨⟨⟨y9.W.drew, below_then y9.be ((Below.refl _ _).drew)⟩, rfl⟩, (fun k _ hk => absurd hk Bool.false_ne_true)⟩
            case hstep =>
              intro i L f w' o b K ho hLi hwt hcl hJ hS HK HN
              have hi : i < 16 := by simpa using (Array.getElem?_eq_some_iff.1 ho).1
              rcases (show i = 0 ∨ i = 1 ∨ i = 2 ∨ i = 3 ∨ i = 4 ∨ i = 5 ∨ i = 6 ∨ i = 7 ∨ i = 8 ∨ i = 9 ∨ i = 10 ∨ i = 11 ∨ i = 12 ∨ i = 13 ∨ i = 14 ∨ i = 15 by omega) with rfl | rfl | rfl | rfl | rfl | rfl | rfl | rfl | rfl | rfl | rfl | rfl | rfl | rfl | rfl | rfl
              all_goals
                simp only [List.getElem?_toArray, List.getElem?_cons_zero, List.getElem?_cons_succ, Option.some.injEq] at ho
                subst ho
                clear hi hcl
              · obtain ⟨x, rfl⟩ := hJ.k
                have s22 : b.tmps.getD 22 undef = .bool false := hS.o 22 (by decide)
                go_simp
                exact HK.out 145 _ _ rfl (hJ.put (by decide) (by decide) (Below.refl _ _) rfl)
              · obtain ⟨x, rfl⟩ := hJ.k
                have s24 : b.tmps.getD 24 undef = .bool false := hS.o 24 (by decide)
                go_simp
                exact HK.out 146 _ _ rfl (hJ.put (by decide) (by decide) (Below.refl _ _) rfl)
              · obtain ⟨x, rfl⟩ := hJ.k
                have s145 : b.tmps.getD 145 undef = .bool false := (hS.i 145 (by decide)).trans (hJ.v 0 (by decide) (hwt ⟨0, .data⟩ (by simp) rfl))
                have s146 : b.tmps.getD 146 undef = .bool false := (hS.i 146 (by decide)).trans (hJ.v 1 (by decide) (hwt ⟨1, .data⟩ (by simp) rfl))
                go_simp
                exact HK.out 147 _ _ rfl (hJ.put (by decide) (by decide) (Below.refl _ _) rfl)
              · obtain ⟨x, rfl⟩ := hJ.k
                have s147 : b.tmps.getD 147 undef = .bool true := (hS.i 147 (by decide)).trans (hJ.v 2 (by decide) (hwt ⟨2, .data⟩ (by simp) rfl))
                go_simp
                exact HK.out 148 _ _ rfl (hJ.put (by decide) (by decide) (Below.refl _ _) rfl)
              · obtain ⟨x, rfl⟩ := hJ.k
                have s148 : b.tmps.getD 148 undef = .bool true := (hS.i 148 (by decide)).trans (hJ.v 3 (by decide) (hwt ⟨3, .guard⟩ (by simp) rfl))
                have s21 : b.tmps.getD 21 undef = .pointer (some ⟨bg21, 0, none⟩) := hS.o 21 (by decide)
                have u0 := kg210 x
                have u1 := kg211 x
                rw [if_pos (wanted_of rfl rfl s148)]
                go_simp
                exact HK.out 149 _ _ rfl (hJ.put (by decide) (by decide) (Below.refl _ _) rfl)
              · obtain ⟨x, rfl⟩ := hJ.k
                have s148 : b.tmps.getD 148 undef = .bool true := (hS.i 148 (by decide)).trans (hJ.v 3 (by decide) (hwt ⟨3, .guard⟩ (by simp) rfl))
                have s23 : b.tmps.getD 23 undef = .pointer (some ⟨bg23, 0, none⟩) := hS.o 23 (by decide)
                have u0 := kg230 x
                have u1 := kg231 x
                rw [if_pos (wanted_of rfl rfl s148)]
                go_simp
                exact HK.out 150 _ _ rfl (hJ.put (by decide) (by decide) (Below.refl _ _) rfl)
              · obtain ⟨x, rfl⟩ := hJ.k
                have s148 : b.tmps.getD 148 undef = .bool true := (hS.i 148 (by decide)).trans (hJ.v 3 (by decide) (hwt ⟨3, .guard⟩ (by simp) rfl))
                have s149 : b.tmps.getD 149 undef = .agg #[.slice A21 n21 c21, .slice B21 m21 d21] := (hS.i 149 (by decide)).trans (hJ.v 4 (by decide) (hwt ⟨4, .data⟩ (by simp) rfl))
                have s150 : b.tmps.getD 150 undef = .agg #[.slice A23 n23 c23, .slice B23 m23 d23] := (hS.i 150 (by decide)).trans (hJ.v 5 (by decide) (hwt ⟨5, .data⟩ (by simp) rfl))
                rw [if_pos (wanted_of rfl rfl s148)]
                go_simp
                refine (eqG_rd x.W (c := c21) (d := d21) (c2 := c23) (d2 := d23) (HG21.out x) (HG23.out x)).mono ?_
                rintro e w'' ⟨rfl, hb⟩
                rw [decide_eq_true rfl]
                go_simp
                exact HK.out 151 _ _ rfl (hJ.put (by decide) (by decide) hb rfl)
              · obtain ⟨x, rfl⟩ := hJ.k
                have s148 : b.tmps.getD 148 undef = .bool true := (hS.i 148 (by decide)).trans (hJ.v 3 (by decide) (hwt ⟨3, .data⟩ (by simp) rfl))
                have s151 : b.tmps.getD 151 undef = .bool true := (hS.i 151 (by decide)).trans (hJ.v 6 (by decide) (hwt ⟨6, .data⟩ (by simp) rfl))
                go_simp
                exact HK.out 152 _ _ rfl (hJ.put (by decide) (by decide) (Below.refl _ _) rfl)
              · obtain ⟨x, rfl⟩ := hJ.k
                have s152 : b.tmps.getD 152 undef = .bool true := (hS.i 152 (by decide)).trans (hJ.v 7 (by decide) (hwt ⟨7, .data⟩ (by simp) rfl))
                go_simp
                exact HK.out 153 _ _ rfl (hJ.put (by decide) (by decide) (Below.refl _ _) rfl)
              · obtain ⟨x, rfl⟩ := hJ.k
                have s153 : b.tmps.getD 153 undef = .bool true := (hS.i 153 (by decide)).trans (hJ.v 8 (by decide) (hwt ⟨8, .guard⟩ (by simp) rfl))
                have s18 : b.tmps.getD 18 undef = .pointer (some ⟨bg18, 0, none⟩) := hS.o 18 (by decide)
                have u0 := kg180 x
                have u1 := kg181 x
                rw [if_pos (wanted_of rfl rfl s153)]
                go_simp
                exact HK.out 154 _ _ rfl (hJ.put (by decide) (by decide) (Below.refl _ _) rfl)
              · obtain ⟨x, rfl⟩ := hJ.k
                have s153 : b.tmps.getD 153 undef = .bool true := (hS.i 153 (by decide)).trans (hJ.v 8 (by decide) (hwt ⟨8, .guard⟩ (by simp) rfl))
                have s154 : b.tmps.getD 154 undef = .agg #[.slice A8 n8 c8, .slice B8 m8 d8] := (hS.i 154 (by decide)).trans (hJ.v 9 (by decide) (hwt ⟨9, .data⟩ (by simp) rfl))
                rw [if_pos (wanted_of rfl rfl s153)]
                go_simp
                refine (implReverseGraph_is x.W (c := c8) (d := d8) (HG8.out x)).mono ?_
                rintro e w'' ⟨A7, n7, c7, B7, m7, d7, rfl, J7, hb⟩
                go_simp
                exact HK.out 155 _ _ rfl (hJ.put (by decide) (by decide) hb ⟨_, _, _, _, _, _, rfl, gis_any J7⟩)
              · obtain ⟨x, rfl⟩ := hJ.k
                have s153 : b.tmps.getD 153 undef = .bool true := (hS.i 153 (by decide)).trans (hJ.v 8 (by decide) (hwt ⟨8, .guard⟩ (by simp) rfl))
                obtain ⟨A6, n6, c6, B6, m6, d6, hs6, G6⟩ := hJ.v 10 (by decide) (hwt ⟨10, .data⟩ (by simp) rfl)
                have s155 : b.tmps.getD 155 undef = .agg #[.slice A6 n6 c6, .slice B6 m6 d6] := (hS.i 155 (by decide)).trans hs6
                clear hs6
                rw [if_pos (wanted_of rfl rfl s153)]
                go_simp
                refine (implReverseGraph_is x.W (c := c6) (d := d6) G6).mono ?_
                rintro e w'' ⟨A7, n7, c7, B7, m7, d7, rfl, J7, hb⟩
                go_simp
                exact HK.out 156 _ _ rfl (hJ.put (by decide) (by decide) hb ⟨_, _, _, _, _, _, rfl, gis_any J7⟩)
              · obtain ⟨x, rfl⟩ := hJ.k
                have s153 : b.tmps.getD 153 undef = .bool true := (hS.i 153 (by decide)).trans (hJ.v 8 (by decide) (hwt ⟨8, .guard⟩ (by simp) rfl))
                have s18 : b.tmps.getD 18 undef = .pointer (some ⟨bg18, 0, none⟩) := hS.o 18 (by decide)
                have u0 := kg180 x
                have u1 := kg181 x
                rw [if_pos (wanted_of rfl rfl s153)]
                go_simp
                exact HK.out 157 _ _ rfl (hJ.put (by decide) (by decide) (Below.refl _ _) rfl)
              · obtain ⟨x, rfl⟩ := hJ.k
                have s153 : b.tmps.getD 153 undef = .bool true := (hS.i 153 (by decide)).trans (hJ.v 8 (by decide) (hwt ⟨8, .guard⟩ (by simp) rfl))
                obtain ⟨A6, n6, c6, B6, m6, d6, hs6, G6⟩ := hJ.v 11 (by decide) (hwt ⟨11, .data⟩ (by simp) rfl)
                have s156 : b.tmps.getD 156 undef = .agg #[.slice A6 n6 c6, .slice B6 m6 d6] := (hS.i 156 (by decide)).trans hs6
                clear hs6
                have s157 : b.tmps.getD 157 undef = .agg #[.slice A8 n8 c8, .slice B8 m8 d8] := (hS.i 157 (by decide)).trans (hJ.v 12 (by decide) (hwt ⟨12, .data⟩ (by simp) rfl))
                rw [if_pos (wanted_of rfl rfl s153)]
                go_simp
                refine (eqG_rd x.W (c := c6) (d := d6) (c2 := c8) (d2 := d8) G6 (HG8.out x)).mono ?_
                rintro e w'' ⟨rfl, hb⟩
                rw [decide_eq_true (revG_two h8)]
                go_simp
                exact HK.out 158 _ _ rfl (hJ.put (by decide) (by decide) hb rfl)
              · obtain ⟨x, rfl⟩ := hJ.k
                have s153 : b.tmps.getD 153 undef = .bool true := (hS.i 153 (by decide)).trans (hJ.v 8 (by decide) (hwt ⟨8, .data⟩ (by simp) rfl))
                have s158 : b.tmps.getD 158 undef = .bool true := (hS.i 158 (by decide)).trans (hJ.v 13 (by decide) (hwt ⟨13, .data⟩ (by simp) rfl))
                go_simp
                exact HK.out 159 _ _ rfl (hJ.put (by decide) (by decide) (Below.refl _ _) rfl)
              · obtain ⟨x, rfl⟩ := hJ.k
                have s159 : b.tmps.getD 159 undef = .bool true := (hS.i 159 (by decide)).trans (hJ.v 14 (by decide) (hwt ⟨14, .data⟩ (by simp) rfl))
                go_simp
                exact HK.out 2 _ _ rfl (hJ.put (by decide) (by decide) (Below.refl _ _) rfl)
            case hend =>
              intro L f w' hall hJ
              have h2_ : f 2 = .bool true := hJ.v 15 (by decide) (hall 15 (by decide))
              obtain ⟨z9, rfl⟩ := hJ.k
              clear hall hJ
              have BF := below_then Bw21 z9.be
              simp only [chs, Act.put, List.setIfInBounds_toArray, List.set_cons_zero, List.set_cons_succ, h2_]
              go_wp2
              go_ret
              exact ⟨by simp, BF⟩
          · go_wp2_with fail
            rw [HWg23.out, HHg23.out, HY9.out]
            refine wp_region_sl [145, 146, 147, 148, 149, 150, 151, 152, 153, 154, 155, 156, 157, 158, 159, 2] (JR w21 [.bool true, .bool true, .bool true, .bool true, .agg #[.slice A21 n21 c21, .slice B21 m21 d21], .agg #[.slice A23 n23 c23, .slice B23 m23 d23], .bool true, .bool true, .bool true, .agg #[.slice A8 n8 c8, .slice B8 m8 d8], undef, undef, .agg #[.slice A8 n8 c8, .slice B8 m8 d8], .bool true, .bool true, .bool true] [none, none, none, none, none, none, none, none, none, none, some (revG h8), some (revG (revG h8)), none, none, none, none] [145, 146, 147, 148, 149, 150, 151, 152, 153, 154, 155, 156, 157, 158, 159, 2]) (by kernel_rfl) (by kernel_rfl) (by decide) (by intro d hd; simp at hd; simp; omega) (by kernel_rfl) ?h0 ?hstep ?hend
            case h0 => exact ⟨⟨⟨y9.W.drew, below_then y9.be ((Below.refl _ _).drew)⟩, rfl⟩, (fun k _ hk => absurd hk Bool.false_ne_true)⟩
            case hstep =>
              intro i L f w' o b K ho hLi hwt hcl hJ hS HK HN
              have hi : i < 16 := by simpa using (Array.getElem?_eq_some_iff.1 ho).1
              rcases (show i = 0 ∨ i = 1 ∨ i = 2 ∨ i = 3 ∨ i = 4 ∨ i = 5 ∨ i = 6 ∨ i = 7 ∨ i = 8 ∨ i = 9 ∨ i = 10 ∨ i = 11 ∨ i = 12 ∨ i = 13 ∨ i = 14 ∨ i = 15 by omega) with rfl | rfl | rfl | rfl | rfl | rfl | rfl | rfl | rfl | rfl | rfl | rfl | rfl | rfl | rfl | rfl
              all_goals
                simp only [List.getElem?_toArray, List.getElem?_cons_zero, List.getElem?_cons_succ, Option.some.injEq] at ho
                subst ho
                clear hi hcl
              · obtain ⟨x, rfl⟩ := hJ.k
                have s22 : b.tmps.getD 22 undef = .bool true := hS.o 22 (by decide)
                go_simp
                exact HK.out 145 _ _ rfl (hJ.put (by decide) (by decide) (Below.refl _ _) rfl)
              · obtain ⟨x, rfl⟩ := hJ.k
                have s24 : b.tmps.getD 24 undef = .bool true := hS.o 24 (by decide)
                go_simp
                exact HK.out 146 _ _ rfl (hJ.put (by decide) (by decide) (Below.refl _ _) rfl)
              · obtain ⟨x, rfl⟩ := hJ.k
                have s145 : b.tmps.getD 145 undef = .bool true := (hS.i 145 (by decide)).trans (hJ.v 0 (by decide) (hwt ⟨0, .data⟩ (by simp) rfl))
                have s146 : b.tmps.getD 146 undef = .bool true := (hS.i 146 (by decide)).trans (hJ.v 1 (by decide) (hwt ⟨1, .data⟩ (by simp) rfl))
                go_simp
                exact HK.out 147 _ _ rfl (hJ.put (by decide) (by decide) (Below.refl _ _) rfl)
              · obtain ⟨x, rfl⟩ := hJ.k
                have s147 : b.tmps.getD 147 undef = .bool true := (hS.i 147 (by decide)).trans (hJ.v 2 (by decide) (hwt ⟨2, .data⟩ (by simp) rfl))
                go_simp
                exact HK.out 148 _ _ rfl (hJ.put (by decide) (by decide) (Below.refl _ _) rfl)
              · obtain ⟨x, rfl⟩ := hJ.k
                have s148 : b.tmps.getD 148 undef = .bool true := (hS.i 148 (by decide)).trans (hJ.v 3 (by decide) (hwt ⟨3, .guard⟩ (by simp) rfl))
                have s21 : b.tmps.getD 21 undef = .pointer (some ⟨bg21, 0, none⟩) := hS.o 21 (by decide)
                have u0 := kg210 x
                have u1 := kg211 x
                rw [if_pos (wanted_of rfl rfl s148)]
                go_simp
                exact HK.out 149 _ _ rfl (hJ.put (by decide) (by decide) (Below.refl _ _) rfl)
              · obtain ⟨x, rfl⟩ := hJ.k
                have s148 : b.tmps.getD 148 undef = .bool true := (hS.i 148 (by decide)).trans (hJ.v 3 (by decide) (hwt ⟨3, .guard⟩ (by simp) rfl))
                have s23 : b.tmps.getD 23 undef = .pointer (some ⟨bg23, 0, none⟩) := hS.o 23 (by decide)
                have u0 := kg230 x
                have u1 := kg231 x
                rw [if_pos (wanted_of rfl rfl s148)]
                go_simp
                exact HK.out 150 _ _ rfl (hJ.put (by decide) (by decide) (Below.refl _ _) rfl)
              · obtain ⟨x, rfl⟩ := hJ.k
                have s148 : b.tmps.getD 148 undef = .bool true := (hS.i 148 (by decide)).trans (hJ.v 3 (by decide) (hwt ⟨3, .guard⟩ (by simp) rfl))
                have s149 : b.tmps.getD 149 undef = .agg #[.slice A21 n21 c21, .slice B21 m21 d21] := (hS.i 149 (by decide)).trans (hJ.v 4 (by decide) (hwt ⟨4, .data⟩ (by simp) rfl))
                have s150 : b.tmps.getD 150 undef = .agg #[.slice A23 n23 c23, .slice B23 m23 d23] := (hS.i 150 (by decide)).trans (hJ.v 5 (by decide) (hwt ⟨5, .data⟩ (by simp) rfl))
                rw [if_pos (wanted_of rfl rfl s148)]
                go_simp
                refine (eqG_rd x.W (c := c21) (d := d21) (c2 := c23) (d2 := d23) (HG21.out x) (HG23.out x)).mono ?_
                rintro e w'' ⟨rfl, hb⟩
                rw [decide_eq_true rfl]
                go_simp
                exact HK.out 151 _ _ rfl (hJ.put (by decide) (by decide) hb rfl)
              · obtain ⟨x, rfl⟩ := hJ.k
                have s148 : b.tmps.getD 148 undef = .bool true := (hS.i 148 (by decide)).trans (hJ.v 3 (by decide) (hwt ⟨3, .data⟩ (by simp) rfl))
                have s151 : b.tmps.getD 151 undef = .bool true := (hS.i 151 (by decide)).trans (hJ.v 6 (by decide) (hwt ⟨6, .data⟩ (by simp) rfl))
                go_simp
                exact HK.out 152 _ _ rfl (hJ.put (by decide) (by decide) (Below.refl _ _) rfl)
              · obtain ⟨x, rfl⟩ := hJ.k
                have s152 : b.tmps.getD 152 undef = .bool true := (hS.i 152 (by decide)).trans (hJ.v 7 (by decide) (hwt ⟨7, .data⟩ (by simp) rfl))
                go_simp
                exact HK.out 153 _ _ rfl (hJ.put (by decide) (by decide) (Below.refl _ _) rfl)
              · obtain ⟨x, rfl⟩ := hJ.k
                have s153 : b.tmps.getD 153 undef = .bool true := (hS.i 153 (by decide)).trans (hJ.v 8 (by decide) (hwt ⟨8, .guard⟩ (by simp) rfl))
                have s18 : b.tmps.getD 18 undef = .pointer (some ⟨bg18, 0, none⟩) := hS.o 18 (by decide)
                have u0 := kg180 x
                have u1 := kg181 x
                rw [if_pos (wanted_of rfl rfl s153)]
                go_simp
                exact HK.out 154 _ _ rfl (hJ.put (by decide) (by decide) (Below.refl _ _) rfl)
              · obtain ⟨x, rfl⟩ := hJ.k
                have s153 : b.tmps.getD 153 undef = .bool true := (hS.i 153 (by decide)).trans (hJ.v 8 (by decide) (hwt ⟨8, .guard⟩ (by simp) rfl))
                have s154 : b.tmps.getD 154 undef = .agg #[.slice A8 n8 c8, .slice B8 m8 d8] := (hS.i 154 (by decide)).trans (hJ.v 9 (by decide) (hwt ⟨9, .data⟩ (by simp) rfl))
                rw [if_pos (wanted_of rfl rfl s153)]
                go_simp
                refine (implReverseGraph_is x.W (c := c8) (d := d8) (HG8.out x)).mono ?_
                rintro e w'' ⟨A7, n7, c7, B7, m7, d7, rfl, J7, hb⟩
                go_simp
                exact HK.out 155 _ _ rfl (hJ.put (by decide) (by decide) hb ⟨_, _, _, _, _, _, rfl, gis_any J7⟩)
              · obtain ⟨x, rfl⟩ := hJ.k
                have s153 : b.tmps.getD 153 undef = .bool true := (hS.i 153 (by decide)).trans (hJ.v 8 (by decide) (hwt ⟨8, .guard⟩ (by simp) rfl))
                obtain ⟨A6, n6, c6, B6, m6, d6, hs6, G6⟩ := hJ.v 10 (by decide) (hwt ⟨10, .data⟩ (by simp) rfl)
                have s155 : b.tmps.getD 155 undef = .agg #[.slice A6 n6 c6, .slice B6 m6 d6] := (hS.i 155 (by decide)).trans hs6
                clear hs6
                rw [if_pos (wanted_of rfl rfl s153)]
                go_simp
                refine (implReverseGraph_is x.W (c := c6) (d := d6) G6).mono ?_
                rintro e w'' ⟨A7, n7, c7, B7, m7, d7, rfl, J7, hb⟩
                go_simp
                exact HK.out 156 _ _ rfl (hJ.put (by decide) (by decide) hb ⟨_, _, _, _, _, _, rfl, gis_any J7⟩)
              · obtain ⟨x, rfl⟩ := hJ.k
                have s153 : b.tmps.getD 153 undef = .bool true := (hS.i 153 (by decide)).trans (hJ.v 8 (by decide) (hwt ⟨8, .guard⟩ (by simp) rfl))
                have s18 : b.tmps.getD 18 undef = .pointer (some ⟨bg18, 0, none⟩) := hS.o 18 (by decide)
                have u0 := kg180 x
                have u1 := kg181 x
                rw [if_pos (wanted_of rfl rfl s153)]
                go_simp
                exact HK.out 157 _ _ rfl (hJ.put (by decide) (by decide) (Below.refl _ _) rfl)
              · obtain ⟨x, rfl⟩ := hJ.k
                have s153 : b.tmps.getD 153 undef = .bool true := (hS.i 153 (by decide)).trans (hJ.v 8 (by decide) (hwt ⟨8, .guard⟩ (by simp) rfl))
                obtain ⟨A6, n6, c6, B6, m6, d6, hs6, G6⟩ := hJ.v 11 (by decide) (hwt ⟨11, .data⟩ (by simp) rfl)
                have s156 : b.tmps.getD 156 undef = .agg #[.slice A6 n6 c6, .slice B6 m6 d6] := (hS.i 156 (by decide)).trans hs6
                clear hs6
                have s157 : b.tmps.getD 157 undef = .agg #[.slice A8 n8 c8, .slice B8 m8 d8] := (hS.i 157 (by decide)).trans (hJ.v 12 (by decide) (hwt ⟨12, .data⟩ (by simp) rfl))
                rw [if_pos (wanted_of rfl rfl s153)]
                go_simp
                refine (eqG_rd x.W (c := c6) (d := d6) (c2 := c8) (d2 := d8) G6 (HG8.out x)).mono ?_
                rintro e w'' ⟨rfl, hb⟩
                rw [decide_eq_true (revG_two h8)]
                go_simp
                exact HK.out 158 _ _ rfl (hJ.put (by decide) (by decide) hb rfl)
              · obtain ⟨x, rfl⟩ := hJ.k
                have s153 : b.tmps.getD 153 undef = .bool true := (hS.i 153 (by decide)).trans (hJ.v 8 (by decide) (hwt ⟨8, .data⟩ (by simp) rfl))
                have s158 : b.tmps.getD 158 undef = .bool true := (hS.i 158 (by decide)).trans (hJ.v 13 (by decide) (hwt ⟨13, .data⟩ (by simp) rfl))
                go_simp
                exact HK.out 159 _ _ rfl (hJ.put (by decide) (by decide) (Below.refl _ _) rfl)
              · obtain ⟨x, rfl⟩ := hJ.k
                have s159 : b.tmps.getD 159 undef = .bool true := (hS.i 159 (by decide)).trans (hJ.v 14 (by decide) (hwt ⟨14, .data⟩ (by simp) rfl))
                go_simp
                exact HK.out 2 _ _ rfl (hJ.put (by decide) (by decide) (Below.refl _ _) rfl)
            case hend =>
              intro L f w' hall hJ
              have h2_ : f 2 = .bool true := hJ.v 15 (by decide) (hall 15 (by decide))
              obtain ⟨z9, rfl⟩ := hJ.k
              clear hall hJ
              have BF := below_then Bw21 z9.be
              simp only [chs, Act.put, List.setIfInBounds_toArray, List.set_cons_zero, List.set_cons_succ, h2_]
              go_wp2
              go_ret
              exact ⟨by simp, BF⟩
        · have hfe := implFormatEdge_any w15 (TP.up Bw15) y
          rw [HBK.out rfl, show (⟨T.data.toList.toArray⟩ : ByteArray) = T from rfl] at hfe
          have HFE := Lib.hid hfe
          clear hfe
          have le160 := Xe16.cell 0
          have le161 := Xe16.cell 1
          have le162 := Xe16.cell 2
          have le163 := Xe16.cell 3
          go_wp2_with fail
          rw [HWe16.out, HHe16.out]
          refine (HFE.out).mono ?_
          rintro e w16 ⟨rfl, hb⟩
          clear le160 le161 le162 le163
          clear HFE
          have Bw16 := below_then Bw15 hb
          replace Xe16 := Xe16.below hb Xe16.lt
          clear hb
          clear Bw15
          clear Xe16 HBK
          go_wp2_with fail
          refine (drawSet_any w16 (R0.up Bw16)).mono ?_
          rintro e w17 ⟨A8, n8, c8, B8, m8, d8, p8, q8, rfl, ⟨vs8, es8, G8⟩, _, _, hb⟩
          obtain ⟨h8, hh8⟩ : ∃ g : G, (⟨vs8, es8⟩ : G) = g := ⟨_, rfl⟩
          rw [hh8] at G8
          clear hh8
          have Bw17 := below_then Bw16 hb
          clear hb
          clear Bw16
          have bA : Below w17.heap.size w17 (w17.alloc (.cells #[.slice A8 n8 c8, .slice B8 m8 d8] 27)) := (Below.refl _ _).alloc (Nat.le_refl _) _
          have Xg18 := Blk.new w17 27 #[.slice A8 n8 c8, .slice B8 m8 d8]
          have BN := below_then Bw17 bA
          replace G8 := G8.up bA
          clear bA Bw17
          generalize hwg18 : w17.alloc (.cells #[.slice A8 n8 c8, .slice B8 m8 d8] 27) = w18 at *
          generalize hhg18 : w17.heap.size = bg18 at *
          have HWg18 := Lib.hid hwg18
          have HHg18 := Lib.hid hhg18
          clear hwg18 hhg18
          have Bw18 := BN
          clear BN
          obtain ⟨st, hst⟩ : ∃ st, (setG h8 p8 q8).2 = st := ⟨_, rfl⟩
          obtain ⟨gs, hgs⟩ : ∃ gs, (setG h8 p8 q8).1 = gs := ⟨_, rfl⟩
          have i1 := fun w (h : GRd w A8 n8 B8 m8 h8) => implSetValue_is w (c := c8) (d := d8) h p8 q8
          have i2 := fun w (h : GRd w A8 n8 B8 m8 h8) => specSetValue_is w (c := c8) (d := d8) h p8 q8
          simp only [hst, hgs] at i1 i2
          have I1 := Lib.hid i1
          have I2 := Lib.hid i2
          clear i1 i2 hst hgs
          have lg180 := Xg18.cell 0
          have lg181 := Xg18.cell 1
          go_wp2_with fail
          rw [HWg18.out, HHg18.out]
          refine (I1.out _ G8).mono ?_
          rintro e w19 ⟨A21, n21, c21, B21, m21, d21, rfl, J21, hb⟩
          clear lg180 lg181
          have Bw19 := below_then Bw18 hb
          replace Xg18 := Xg18.below hb Xg18.lt
          replace G8 := G8.up hb
          clear hb
          clear Bw18
          have G21 := gis_any J21
          clear J21
          have bA : Below w19.heap.size w19 (w19.alloc (.cells #[.slice A21 n21 c21, .slice B21 m21 d21] 27)) := (Below.refl _ _).alloc (Nat.le_refl _) _
          have Xg21 := Blk.new w19 27 #[.slice A21 n21 c21, .slice B21 m21 d21]
          have BN := below_then Bw19 bA
          replace Xg18 := Xg18.below bA Xg18.lt
          replace G8 := G8.up bA
          replace G21 := G21.up bA
          clear bA Bw19
          generalize hwg21 : w19.alloc (.cells #[.slice A21 n21 c21, .slice B21 m21 d21] 27) = w20 at *
          generalize hhg21 : w19.heap.size = bg21 at *
          have HWg21 := Lib.hid hwg21
          have HHg21 := Lib.hid hhg21
          clear hwg21 hhg21
          have Bw20 := BN
          clear BN
          have lg180 := Xg18.cell 0
          rw [← HWg21.out] at lg180
          have lg181 := Xg18.cell 1
          rw [← HWg21.out] at lg181
          go_wp2_with fail
          rw [HWg21.out, HHg21.out]
          refine (I2.out _ G8).mono ?_
          rintro e w21 ⟨A23, n23, c23, B23, m23, d23, rfl, J23, hb⟩
          clear lg180 lg181
          have Bw21 := below_then Bw20 hb
          replace Xg18 := Xg18.below hb Xg18.lt
          replace Xg21 := Xg21.below hb Xg21.lt
          replace G8 := G8.up hb
          replace G21 := G21.up hb
          clear hb
          clear Bw20
          have G23 := gis_any J23
          clear J23 I1 I2
          have bA : Below w21.heap.size w21 (w21.alloc (.cells #[.slice A23 n23 c23, .slice B23 m23 d23] 27)) := (Below.refl _ _).alloc (Nat.le_refl _) _
          have Xg23 := Blk.new w21 27 #[.slice A23 n23 c23, .slice B23 m23 d23]
          have BN := below_then Bw21 bA
          replace Xg18 := Xg18.below bA Xg18.lt
          replace Xg21 := Xg21.below bA Xg21.lt
          replace G8 := G8.up bA
          replace G21 := G21.up bA
          replace G23 := G23.up bA
          clear bA Bw21
          generalize hwg23 : w21.alloc (.cells #[.slice A23 n23 c23, .slice B23 m23 d23] 27) = w22 at *
          generalize hhg23 : w21.heap.size = bg23 at *
          have HWg23 := Lib.hid hwg23
          have HHg23 := Lib.hid hhg23
          clear hwg23 hhg23
          have Bw22 := BN
          clear BN
          obtain ⟨y9, hy9⟩ : ∃ y : Kept w22, w22 = y.W := ⟨⟨w22, Below.refl _ _⟩, rfl⟩
          have HY9 := Lib.hid hy9
          clear hy9
          have kg180 := Xg18.kc (v := .slice A8 n8 c8) 0 rfl
          have kg181 := Xg18.kc (v := .slice B8 m8 d8) 1 rfl
          have kg210 := Xg21.kc (v := .slice A21 n21 c21) 0 rfl
          have kg211 := Xg21.kc (v := .slice B21 m21 d21) 1 rfl
          have kg230 := Xg23.kc (v := .slice A23 n23 c23) 0 rfl
          have kg231 := Xg23.kc (v := .slice B23 m23 d23) 1 rfl
          have HG8 : RowKit.Hid (∀ x : Kept w22, GRd x.W A8 n8 B8 m8 h8) := Lib.hid fun x => G8.up x.be
          have HG21 : RowKit.Hid (∀ x : Kept w22, GRd x.W A21 n21 B21 m21 gs) := Lib.hid fun x => G21.up x.be
          have HG23 : RowKit.Hid (∀ x : Kept w22, GRd x.W A23 n23 B23 m23 gs) := Lib.hid fun x => G23.up x.be
          clear Xg18 Xg21 Xg23 G8 G21 G23
          cases st
          · go_wp2_with fail
            rw [HWg23.out, HHg23.out, HY9.out]
            refine wp_region_sl [145, 146, 147, 148, 149, 150, 151, 152, 153, 154, 155, 156, 157, 158, 159, 2] (JR w22 [.bool false, .bool false, .bool true, .bool true, .agg #[.slice A21 n21 c21, .slice B21 m21 d21], .agg #[.slice A23 n23 c23, .slice B23 m23 d23], .bool true, .bool true, .bool true, .agg #[.slice A8 n8 c8, .slice B8 m8 d8], undef, undef, .agg #[.slice A8 n8 c8, .slice B8 m8 d8], .bool true, .bool true, .bool true] [none, none, none, none, none, none, none, none, none, none, some (revG h8), some (revG (revG h8)), none, none, none, none] [145, 146, 147, 148, 149, 150, 151, 152, 153, 154, 155, 156, 157, 158, 159, 2]) (by kernel_rfl) (by kernel_rfl) (by decide) (by intro d hd; simp at hd; simp; omega) (by kernel_rfl) ?h0 ?hstep ?hend
            case h0 => exact ⟨⟨⟨y9.W.drew, below_then y9.be ((Below.refl _ _).drew)⟩, rfl⟩, (fun k _ hk => absurd hk Bool.false_ne_true)⟩
            case hstep =>
              intro i L f w' o b K ho hLi hwt hcl hJ hS HK HN
              have hi : i < 16 := by simpa using (Array.getElem?_eq_some_iff.1 ho).1
              rcases (show i = 0 ∨ i = 1 ∨ i = 2 ∨ i = 3 ∨ i = 4 ∨ i = 5 ∨ i = 6 ∨ i = 7 ∨ i = 8 ∨ i = 9 ∨ i = 10 ∨ i = 11 ∨ i = 12 ∨ i = 13 ∨ i = 14 ∨ i = 15 by omega) with rfl | rfl | rfl | rfl | rfl | rfl | rfl | rfl | rfl | rfl | rfl | rfl | rfl | rfl | rfl | rfl
              all_goals
                simp only [List.getElem?_toArray, List.getElem?_cons_zero, List.getElem?_cons_succ, Option.some.injEq] at ho
                subst ho
                clear hi hcl
              · obtain ⟨x, rfl⟩ := hJ.k
                have s22 : b.tmps.getD 22 undef = .bool false := hS.o 22 (by decide)
                go_simp
                exact HK.out 145 _ _ rfl (hJ.put (by decide) (by decide) (Below.refl _ _) rfl)
              · obtain ⟨x, rfl⟩ := hJ.k
                have s24 : b.tmps.getD 24 undef = .bool false := hS.o 24 (by decide)
                go_simp
                exact HK.out 146 _ _ rfl (hJ.put (by decide) (by decide) (Below.refl _ _) rfl)
              · obtain ⟨x, rfl⟩ := hJ.k
                have s145 : b.tmps.getD 145 undef = .bool false := (hS.i 145 (by decide)).trans (hJ.v 0 (by decide) (hwt ⟨0, .data⟩ (by simp) rfl))
                have s146 : b.tmps.getD 146 undef = .bool false := (hS.i 146 (by decide)).trans (hJ.v 1 (by decide) (hwt ⟨1, .data⟩ (by simp) rfl))
                go_simp
                exact HK.out 147 _ _ rfl (hJ.put (by decide) (by decide) (Below.refl _ _) rfl)
              · obtain ⟨x, rfl⟩ := hJ.k
                have s147 : b.tmps.getD 147 undef = .bool true := (hS.i 147 (by decide)).trans (hJ.v 2 (by decide) (hwt ⟨2, .data⟩ (by simp) rfl))
                go_simp
                exact HK.out 148 _ _ rfl (hJ.put (by decide) (by decide) (Below.refl _ _) rfl)
              · obtain ⟨x, rfl⟩ := hJ.k
                have s148 : b.tmps.getD 148 undef = .bool true := (hS.i 148 (by decide)).trans (hJ.v 3 (by decide) (hwt ⟨3, .guard⟩ (by simp) rfl))
                have s21 : b.tmps.getD 21 undef = .pointer (some ⟨bg21, 0, none⟩) := hS.o 21 (by decide)
                have u0 := kg210 x
                have u1 := kg211 x
                rw [if_pos (wanted_of rfl rfl s148)]
                go_simp
                exact HK.out 149 _ _ rfl (hJ.put (by decide) (by decide) (Below.refl _ _) rfl)
              · obtain ⟨x, rfl⟩ := hJ.k
                have s148 : b.tmps.getD 148 undef = .bool true := (hS.i 148 (by decide)).trans (hJ.v 3 (by decide) (hwt ⟨3, .guard⟩ (by simp) rfl))
                have s23 : b.tmps.getD 23 undef = .pointer (some ⟨bg23, 0, none⟩) := hS.o 23 (by decide)
                have u0 := kg230 x
                have u1 := kg231 x
                rw [if_pos (wanted_of rfl rfl s148)]
                go_simp
                exact HK.out 150 _ _ rfl (hJ.put (by decide) (by decide) (Below.refl _ _) rfl)
              · obtain ⟨x, rfl⟩ := hJ.k
                have s148 : b.tmps.getD 148 undef = .bool true := (hS.i 148 (by decide)).trans (hJ.v 3 (by decide) (hwt ⟨3, .guard⟩ (by simp) rfl))
                have s149 : b.tmps.getD 149 undef = .agg #[.slice A21 n21 c21, .slice B21 m21 d21] := (hS.i 149 (by decide)).trans (hJ.v 4 (by decide) (hwt ⟨4, .data⟩ (by simp) rfl))
                have s150 : b.tmps.getD 150 undef = .agg #[.slice A23 n23 c23, .slice B23 m23 d23] := (hS.i 150 (by decide)).trans (hJ.v 5 (by decide) (hwt ⟨5, .data⟩ (by simp) rfl))
                rw [if_pos (wanted_of rfl rfl s148)]
                go_simp
                refine (eqG_rd x.W (c := c21) (d := d21) (c2 := c23) (d2 := d23) (HG21.out x) (HG23.out x)).mono ?_
                rintro e w'' ⟨rfl, hb⟩
                rw [decide_eq_true rfl]
                go_simp
                exact HK.out 151 _ _ rfl (hJ.put (by decide) (by decide) hb rfl)
              · obtain ⟨x, rfl⟩ := hJ.k
                have s148 : b.tmps.getD 148 undef = .bool true := (hS.i 148 (by decide)).trans (hJ.v 3 (by decide) (hwt ⟨3, .data⟩ (by simp) rfl))
                have s151 : b.tmps.getD 151 undef = .bool true := (hS.i 151 (by decide)).trans (hJ.v 6 (by decide) (hwt ⟨6, .data⟩ (by simp) rfl))
                go_simp
                exact HK.out 152 _ _ rfl (hJ.put (by decide) (by decide) (Below.refl _ _) rfl)
              · obtain ⟨x, rfl⟩ := hJ.k
                have s152 : b.tmps.getD 152 undef = .bool true := (hS.i 152 (by decide)).trans (hJ.v 7 (by decide) (hwt ⟨7, .data⟩ (by simp) rfl))
                go_simp
                exact HK.out 153 _ _ rfl (hJ.put (by decide) (by decide) (Below.refl _ _) rfl)
              · obtain ⟨x, rfl⟩ := hJ.k
                have s153 : b.tmps.getD 153 undef = .bool true := (hS.i 153 (by decide)).trans (hJ.v 8 (by decide) (hwt ⟨8, .guard⟩ (by simp) rfl))
                have s18 : b.tmps.getD 18 undef = .pointer (some ⟨bg18, 0, none⟩) := hS.o 18 (by decide)
                have u0 := kg180 x
                have u1 := kg181 x
                rw [if_pos (wanted_of rfl rfl s153)]
                go_simp
                exact HK.out 154 _ _ rfl (hJ.put (by decide) (by decide) (Below.refl _ _) rfl)
              · obtain ⟨x, rfl⟩ := hJ.k
                have s153 : b.tmps.getD 153 undef = .bool true := (hS.i 153 (by decide)).trans (hJ.v 8 (by decide) (hwt ⟨8, .guard⟩ (by simp) rfl))
                have s154 : b.tmps.getD 154 undef = .agg #[.slice A8 n8 c8, .slice B8 m8 d8] := (hS.i 154 (by decide)).trans (hJ.v 9 (by decide) (hwt ⟨9, .data⟩ (by simp) rfl))
                rw [if_pos (wanted_of rfl rfl s153)]
                go_simp
                refine (implReverseGraph_is x.W (c := c8) (d := d8) (HG8.out x)).mono ?_
                rintro e w'' ⟨A7, n7, c7, B7, m7, d7, rfl, J7, hb⟩
                go_simp
                exact HK.out 155 _ _ rfl (hJ.put (by decide) (by decide) hb ⟨_, _, _, _, _, _, rfl, gis_any J7⟩)
              · obtain ⟨x, rfl⟩ := hJ.k
                have s153 : b.tmps.getD 153 undef = .bool true := (hS.i 153 (by decide)).trans (hJ.v 8 (by decide) (hwt ⟨8, .guard⟩ (by simp) rfl))
                obtain ⟨A6, n6, c6, B6, m6, d6, hs6, G6⟩ := hJ.v 10 (by decide) (hwt ⟨10, .data⟩ (by simp) rfl)
                have s155 : b.tmps.getD 155 undef = .agg #[.slice A6 n6 c6, .slice B6 m6 d6] := (hS.i 155 (by decide)).trans hs6
                clear hs6
                rw [if_pos (wanted_of rfl rfl s153)]
                go_simp
                refine (implReverseGraph_is x.W (c := c6) (d := d6) G6).mono ?_
                rintro e w'' ⟨A7, n7, c7, B7, m7, d7, rfl, J7, hb⟩
                go_simp
                exact HK.out 156 _ _ rfl (hJ.put (by decide) (by decide) hb ⟨_, _, _, _, _, _, rfl, gis_any J7⟩)
              · obtain ⟨x, rfl⟩ := hJ.k
                have s153 : b.tmps.getD 153 undef = .bool true := (hS.i 153 (by decide)).trans (hJ.v 8 (by decide) (hwt ⟨8, .guard⟩ (by simp) rfl))
                have s18 : b.tmps.getD 18 undef = .pointer (some ⟨bg18, 0, none⟩) := hS.o 18 (by decide)
                have u0 := kg180 x
                have u1 := kg181 x
                rw [if_pos (wanted_of rfl rfl s153)]
                go_simp
                exact HK.out 157 _ _ rfl (hJ.put (by decide) (by decide) (Below.refl _ _) rfl)
              · obtain ⟨x, rfl⟩ := hJ.k
                have s153 : b.tmps.getD 153 undef = .bool true := (hS.i 153 (by decide)).trans (hJ.v 8 (by decide) (hwt ⟨8, .guard⟩ (by simp) rfl))
                obtain ⟨A6, n6, c6, B6, m6, d6, hs6, G6⟩ := hJ.v 11 (by decide) (hwt ⟨11, .data⟩ (by simp) rfl)
                have s156 : b.tmps.getD 156 undef = .agg #[.slice A6 n6 c6, .slice B6 m6 d6] := (hS.i 156 (by decide)).trans hs6
                clear hs6
                have s157 : b.tmps.getD 157 undef = .agg #[.slice A8 n8 c8, .slice B8 m8 d8] := (hS.i 157 (by decide)).trans (hJ.v 12 (by decide) (hwt ⟨12, .data⟩ (by simp) rfl))
                rw [if_pos (wanted_of rfl rfl s153)]
                go_simp
                refine (eqG_rd x.W (c := c6) (d := d6) (c2 := c8) (d2 := d8) G6 (HG8.out x)).mono ?_
                rintro e w'' ⟨rfl, hb⟩
                rw [decide_eq_true (revG_two h8)]
                go_simp
                exact HK.out 158 _ _ rfl (hJ.put (by decide) (by decide) hb rfl)
              · obtain ⟨x, rfl⟩ := hJ.k
                have s153 : b.tmps.getD 153 undef = .bool true := (hS.i 153 (by decide)).trans (hJ.v 8 (by decide) (hwt ⟨8, .data⟩ (by simp) rfl))
                have s158 : b.tmps.getD 158 undef = .bool true := (hS.i 158 (by decide)).trans (hJ.v 13 (by decide) (hwt ⟨13, .data⟩ (by simp) rfl))
                go_simp
                exact HK.out 159 _ _ rfl (hJ.put (by decide) (by decide) (Below.refl _ _) rfl)
              · obtain ⟨x, rfl⟩ := hJ.k
                have s159 : b.tmps.getD 159 undef = .bool true := (hS.i 159 (by decide)).trans (hJ.v 14 (by decide) (hwt ⟨14, .data⟩ (by simp) rfl))
                go_simp
                exact HK.out 2 _ _ rfl (hJ.put (by decide) (by decide) (Below.refl _ _) rfl)
            case hend =>
              intro L f w' hall hJ
              have h2_ : f 2 = .bool true := hJ.v 15 (by decide) (hall 15 (by decide))
              obtain ⟨z9, rfl⟩ := hJ.k
              clear hall hJ
              have BF := below_then Bw22 z9.be
              simp only [chs, Act.put, List.setIfInBounds_toArray, List.set_cons_zero, List.set_cons_succ, h2_]
              go_wp2
              go_ret
              exact ⟨by simp, BF⟩
          · go_wp2_with fail
            rw [HWg23.out, HHg23.out, HY9.out]
            refine wp_region_sl [145, 146, 147, 148, 149, 150, 151, 152, 153, 154, 155, 156, 157, 158, 159, 2] (JR w22 [.bool true, .bool true, .bool true, .bool true, .agg #[.slice A21 n21 c21, .slice B21 m21 d21], .agg #[.slice A23 n23 c23, .slice B23 m23 d23], .bool true, .bool true, .bool true, .agg #[.slice A8 n8 c8, .slice B8 m8 d8], undef, undef, .agg #[.slice A8 n8 c8, .slice B8 m8 d8], .bool true, .bool true, .bool true] [none, none, none, none, none, none, none, none, none, none, some (revG h8), some (revG (revG h8)), none, none, none, none] [145, 146, 147, 148, 149, 150, 151, 152, 153, 154, 155, 156, 157, 158, 159, 2]) (by kernel_rfl) (by kernel_rfl) (by decide) (by intro d hd; simp at hd; simp; omega) (by kernel_rfl) ?h0 ?hstep ?hend
            case h0 => exact ⟨⟨⟨y9.W.drew, below_then y9.be ((Below.refl _ _).drew)⟩, rfl⟩, (fun k _ hk => absurd hk Bool.false_ne_true)⟩
            case hstep =>
              intro i L f w' o b K ho hLi hwt hcl hJ hS HK HN
              have hi : i < 16 := by simpa using (Array.getElem?_eq_some_iff.1 ho).1
              rcases (show i = 0 ∨ i = 1 ∨ i = 2 ∨ i = 3 ∨ i = 4 ∨ i = 5 ∨ i = 6 ∨ i = 7 ∨ i = 8 ∨ i = 9 ∨ i = 10 ∨ i = 11 ∨ i = 12 ∨ i = 13 ∨ i = 14 ∨ i = 15 by omega) with rfl | rfl | rfl | rfl | rfl | rfl | rfl | rfl | rfl | rfl | rfl | rfl | rfl | rfl | rfl | rfl
              all_goals
                simp only [List.getElem?_toArray, List.getElem?_cons_zero, List.getElem?_cons_succ, Option.some.injEq] at ho
                subst ho
                clear hi hcl
              · obtain ⟨x, rfl⟩ := hJ.k
                have s22 : b.tmps.getD 22 undef = .bool true := hS.o 22 (by decide)
                go_simp
                exact HK.out 145 _ _ rfl (hJ.put (by decide) (by decide) (Below.refl _ _) rfl)
              · obtain ⟨x, rfl⟩ := hJ.k
                have s24 : b.tmps.getD 24 undef = .bool true := hS.o 24 (by decide)
                go_simp
                exact HK.out 146 _ _ rfl (hJ.put (by decide) (by decide) (Below.refl _ _) rfl)
              · obtain ⟨x, rfl⟩ := hJ.k
                have s145 : b.tmps.getD 145 undef = .bool true := (hS.i 145 (by decide)).trans (hJ.v 0 (by decide) (hwt ⟨0, .data⟩ (by simp) rfl))
                have s146 : b.tmps.getD 146 undef = .bool true := (hS.i 146 (by decide)).trans (hJ.v 1 (by decide) (hwt ⟨1, .data⟩ (by simp) rfl))
                go_simp
                exact HK.out 147 _ _ rfl (hJ.put (by decide) (by decide) (Below.refl _ _) rfl)
              · obtain ⟨x, rfl⟩ := hJ.k
                have s147 : b.tmps.getD 147 undef = .bool true := (hS.i 147 (by decide)).trans (hJ.v 2 (by decide) (hwt ⟨2, .data⟩ (by simp) rfl))
                go_simp
                exact HK.out 148 _ _ rfl (hJ.put (by decide) (by decide) (Below.refl _ _) rfl)
              · obtain ⟨x, rfl⟩ := hJ.k
                have s148 : b.tmps.getD 148 undef = .bool true := (hS.i 148 (by decide)).trans (hJ.v 3 (by decide) (hwt ⟨3, .guard⟩ (by simp) rfl))
                have s21 : b.tmps.getD 21 undef = .pointer (some ⟨bg21, 0, none⟩) := hS.o 21 (by decide)
                have u0 := kg210 x
                have u1 := kg211 x
                rw [if_pos (wanted_of rfl rfl s148)]
                go_simp
                exact HK.out 149 _ _ rfl (hJ.put (by decide) (by decide) (Below.refl _ _) rfl)
              · obtain ⟨x, rfl⟩ := hJ.k
                have s148 : b.tmps.getD 148 undef = .bool true := (hS.i 148 (by decide)).trans (hJ.v 3 (by decide) (hwt ⟨3, .guard⟩ (by simp) rfl))
                have s23 : b.tmps.getD 23 undef = .pointer (some ⟨bg23, 0, none⟩) := hS.o 23 (by decide)
                have u0 := kg230 x
                have u1 := kg231 x
                rw [if_pos (wanted_of rfl rfl s148)]
                go_simp
                exact HK.out 150 _ _ rfl (hJ.put (by decide) (by decide) (Below.refl _ _) rfl)
              · obtain ⟨x, rfl⟩ := hJ.k
                have s148 : b.tmps.getD 148 undef = .bool true := (hS.i 148 (by decide)).trans (hJ.v 3 (by decide) (hwt ⟨3, .guard⟩ (by simp) rfl))
                have s149 : b.tmps.getD 149 undef = .agg #[.slice A21 n21 c21, .slice B21 m21 d21] := (hS.i 149 (by decide)).trans (hJ.v 4 (by decide) (hwt ⟨4, .data⟩ (by simp) rfl))
                have s150 : b.tmps.getD 150 undef = .agg #[.slice A23 n23 c23, .slice B23 m23 d23] := (hS.i 150 (by decide)).trans (hJ.v 5 (by decide) (hwt ⟨5, .data⟩ (by simp) rfl))
                rw [if_pos (wanted_of rfl rfl s148)]
                go_simp
                refine (eqG_rd x.W (c := c21) (d := d21) (c2 := c23) (d2 := d23) (HG21.out x) (HG23.out x)).mono ?_
                rintro e w'' ⟨rfl, hb⟩
                rw [decide_eq_true rfl]
                go_simp
                exact HK.out 151 _ _ rfl (hJ.put (by decide) (by decide) hb rfl)
              · obtain ⟨x, rfl⟩ := hJ.k
                have s148 : b.tmps.getD 148 undef = .bool true := (hS.i 148 (by decide)).trans (hJ.v 3 (by decide) (hwt ⟨3, .data⟩ (by simp) rfl))
                have s151 : b.tmps.getD 151 undef = .bool true := (hS.i 151 (by decide)).trans (hJ.v 6 (by decide) (hwt ⟨6, .data⟩ (by simp) rfl))
                go_simp
                exact HK.out 152 _ _ rfl (hJ.put (by decide) (by decide) (Below.refl _ _) rfl)
              · obtain ⟨x, rfl⟩ := hJ.k
                have s152 : b.tmps.getD 152 undef = .bool true := (hS.i 152 (by decide)).trans (hJ.v 7 (by decide) (hwt ⟨7, .data⟩ (by simp) rfl))
                go_simp
                exact HK.out 153 _ _ rfl (hJ.put (by decide) (by decide) (Below.refl _ _) rfl)
              · obtain ⟨x, rfl⟩ := hJ.k
                have s153 : b.tmps.getD 153 undef = .bool true := (hS.i 153 (by decide)).trans (hJ.v 8 (by decide) (hwt ⟨8, .guard⟩ (by simp) rfl))
                have s18 : b.tmps.getD 18 undef = .pointer (some ⟨bg18, 0, none⟩) := hS.o 18 (by decide)
                have u0 := kg180 x
                have u1 := kg181 x
                rw [if_pos (wanted_of rfl rfl s153)]
                go_simp
                exact HK.out 154 _ _ rfl (hJ.put (by decide) (by decide) (Below.refl _ _) rfl)
              · obtain ⟨x, rfl⟩ := hJ.k
                have s153 : b.tmps.getD 153 undef = .bool true := (hS.i 153 (by decide)).trans (hJ.v 8 (by decide) (hwt ⟨8, .guard⟩ (by simp) rfl))
                have s154 : b.tmps.getD 154 undef = .agg #[.slice A8 n8 c8, .slice B8 m8 d8] := (hS.i 154 (by decide)).trans (hJ.v 9 (by decide) (hwt ⟨9, .data⟩ (by simp) rfl))
                rw [if_pos (wanted_of rfl rfl s153)]
                go_simp
                refine (implReverseGraph_is x.W (c := c8) (d := d8) (HG8.out x)).mono ?_
                rintro e w'' ⟨A7, n7, c7, B7, m7, d7, rfl, J7, hb⟩
                go_simp
                exact HK.out 155 _ _ rfl (hJ.put (by decide) (by decide) hb ⟨_, _, _, _, _, _, rfl, gis_any J7⟩)
              · obtain ⟨x, rfl⟩ := hJ.k
                have s153 : b.tmps.getD 153 undef = .bool true := (hS.i 153 (by decide)).trans (hJ.v 8 (by decide) (hwt ⟨8, .guard⟩ (by simp) rfl))
                obtain ⟨A6, n6, c6, B6, m6, d6, hs6, G6⟩ := hJ.v 10 (by decide) (hwt ⟨10, .data⟩ (by simp) rfl)
                have s155 : b.tmps.getD 155 undef = .agg #[.slice A6 n6 c6, .slice B6 m6 d6] := (hS.i 155 (by decide)).trans hs6
                clear hs6
                rw [if_pos (wanted_of rfl rfl s153)]
                go_simp
                refine (implReverseGraph_is x.W (c := c6) (d := d6) G6).mono ?_
                rintro e w'' ⟨A7, n7, c7, B7, m7, d7, rfl, J7, hb⟩
                go_simp
                exact HK.out 156 _ _ rfl (hJ.put (by decide) (by decide) hb ⟨_, _, _, _, _, _, rfl, gis_any J7⟩)
              · obtain ⟨x, rfl⟩ := hJ.k
                have s153 : b.tmps.getD 153 undef = .bool true := (hS.i 153 (by decide)).trans (hJ.v 8 (by decide) (hwt ⟨8, .guard⟩ (by simp) rfl))
                have s18 : b.tmps.getD 18 undef = .pointer (some ⟨bg18, 0, none⟩) := hS.o 18 (by decide)
                have u0 := kg180 x
                have u1 := kg181 x
                rw [if_pos (wanted_of rfl rfl s153)]
                go_simp
                exact HK.out 157 _ _ rfl (hJ.put (by decide) (by decide) (Below.refl _ _) rfl)
              · obtain ⟨x, rfl⟩ := hJ.k
                have s153 : b.tmps.getD 153 undef = .bool true := (hS.i 153 (by decide)).trans (hJ.v 8 (by decide) (hwt ⟨8, .guard⟩ (by simp) rfl))
                obtain ⟨A6, n6, c6, B6, m6, d6, hs6, G6⟩ := hJ.v 11 (by decide) (hwt ⟨11, .data⟩ (by simp) rfl)
                have s156 : b.tmps.getD 156 undef = .agg #[.slice A6 n6 c6, .slice B6 m6 d6] := (hS.i 156 (by decide)).trans hs6
                clear hs6
                have s157 : b.tmps.getD 157 undef = .agg #[.slice A8 n8 c8, .slice B8 m8 d8] := (hS.i 157 (by decide)).trans (hJ.v 12 (by decide) (hwt ⟨12, .data⟩ (by simp) rfl))
                rw [if_pos (wanted_of rfl rfl s153)]
                go_simp
                refine (eqG_rd x.W (c := c6) (d := d6) (c2 := c8) (d2 := d8) G6 (HG8.out x)).mono ?_
                rintro e w'' ⟨rfl, hb⟩
                rw [decide_eq_true (revG_two h8)]
                go_simp
                exact HK.out 158 _ _ rfl (hJ.put (by decide) (by decide) hb rfl)
              · obtain ⟨x, rfl⟩ := hJ.k
                have s153 : b.tmps.getD 153 undef = .bool true := (hS.i 153 (by decide)).trans (hJ.v 8 (by decide) (hwt ⟨8, .data⟩ (by simp) rfl))
                have s158 : b.tmps.getD 158 undef = .bool true := (hS.i 158 (by decide)).trans (hJ.v 13 (by decide) (hwt ⟨13, .data⟩ (by simp) rfl))
                go_simp
                exact HK.out 159 _ _ rfl (hJ.put (by decide) (by decide) (Below.refl _ _) rfl)
              · obtain ⟨x, rfl⟩ := hJ.k
                have s159 : b.tmps.getD 159 undef = .bool true := (hS.i 159 (by decide)).trans (hJ.v 14 (by decide) (hwt ⟨14, .data⟩ (by simp) rfl))
                go_simp
                exact HK.out 2 _ _ rfl (hJ.put (by decide) (by decide) (Below.refl _ _) rfl)
            case hend =>
              intro L f w' hall hJ
              have h2_ : f 2 = .bool true := hJ.v 15 (by decide) (hall 15 (by decide))
              obtain ⟨z9, rfl⟩ := hJ.k
              clear hall hJ
              have BF := below_then Bw22 z9.be
              simp only [chs, Act.put, List.setIfInBounds_toArray, List.set_cons_zero, List.set_cons_succ, h2_]
              go_wp2
              go_ret
              exact ⟨by simp, BF⟩
      · obtain rfl := HGB.out rfl
        have lg130 := Xg13.cell 0
        have lg131 := Xg13.cell 1
        have lg30 := Xg3.cell 0
        have lg31 := Xg3.cell 1
        go_wp2_with fail
        refine (eqG_rd _ (c := c13) (d := d13) (c2 := c) (d2 := d) G13 G3).mono ?_
        rintro e w13 ⟨rfl, hb⟩
        clear lg130 lg131 lg30 lg31
        rw [decide_eq_true rfl]
        have Bw13 := below_then Bw12 hb
        replace Xg3 := Xg3.below hb Xg3.lt
        replace Xg13 := Xg13.below hb Xg13.lt
        replace G3 := G3.up hb
        replace G13 := G13.up hb
        clear hb
        clear Bw12
        clear Xg3 Xg13 G3 G13 HGB
        go_wp2_with fail
        refine (drawParseE_any w13 (R0.up Bw13)).mono ?_
        rintro e w14 ⟨T, rfl, hT, hb⟩
        have Bw14 := below_then Bw13 hb
        clear hb
        clear Bw13
        obtain ⟨y, hy⟩ : ∃ y, prsEN T.data.toList = y := ⟨_, rfl⟩
        obtain ⟨ok, hok⟩ : ∃ ok, prsEB T.data.toList = ok := ⟨_, rfl⟩
        have hbk : ok = true → fmtE y = T.data.toList := fun h => by rw [← hy]; exact edge_back (hok.trans h)
        have p1 := fun w TP TE TM => implParseEdge_any w TP TE TM T (by omega)
        simp only [hy, hok] at p1
        have P1 := Lib.hid p1
        have HBK := Lib.hid hbk
        clear p1 hy hok hbk
        go_wp2_with fail
        refine (P1.out _ (TP.up Bw14) (TE.up Bw14) (TM.up Bw14)).mono ?_
        rintro e w15 ⟨rfl, hb⟩
        have Bw15 := below_then Bw14 hb
        clear hb
        clear Bw14
        have bA : Below w15.heap.size w15 (w15.alloc (.cells #[.int .i64 y.id, .int .i64 y.fr, .int .i64 y.to, .int .i64 y.lb] 29)) := (Below.refl _ _).alloc (Nat.le_refl _) _
        have Xe16 := Blk.new w15 29 #[.int .i64 y.id, .int .i64 y.fr, .int .i64 y.to, .int .i64 y.lb]
        have BN := below_then Bw15 bA
        clear bA Bw15
        generalize hwe16 : w15.alloc (.cells #[.int .i64 y.id, .int .i64 y.fr, .int .i64 y.to, .int .i64 y.lb] 29) = w16 at *
        generalize hhe16 : w15.heap.size = be16 at *
        have HWe16 := Lib.hid hwe16
        have HHe16 := Lib.hid hhe16
        clear hwe16 hhe16
        have Bw16 := BN
        clear BN
        clear P1
        cases ok
        · clear Xe16 HBK
          go_wp2_with fail
          rw [HWe16.out, HHe16.out]
          refine (drawSet_any w16 (R0.up Bw16)).mono ?_
          rintro e w17 ⟨A8, n8, c8, B8, m8, d8, p8, q8, rfl, ⟨vs8, es8, G8⟩, _, _, hb⟩
          obtain ⟨h8, hh8⟩ : ∃ g : G, (⟨vs8, es8⟩ : G) = g := ⟨_, rfl⟩
          rw [hh8] at G8
          clear hh8
          have Bw17 := below_then Bw16 hb
          clear hb
          clear Bw16
          have bA : Below w17.heap.size w17 (w17.alloc (.cells #[.slice A8 n8 c8, .slice B8 m8 d8] 27)) := (Below.refl _ _).alloc (Nat.le_refl _) _
          have Xg18 := Blk.new w17 27 #[.slice A8 n8 c8, .slice B8 m8 d8]
          have BN := below_then Bw17 bA
          replace G8 := G8.up bA
          clear bA Bw17
          generalize hwg18 : w17.alloc (.cells #[.slice A8 n8 c8, .slice B8 m8 d8] 27) = w18 at *
          generalize hhg18 : w17.heap.size = bg18 at *
          have HWg18 := Lib.hid hwg18
          have HHg18 := Lib.hid hhg18
          clear hwg18 hhg18
          have Bw18 := BN
          clear BN
          obtain ⟨st, hst⟩ : ∃ st, (setG h8 p8 q8).2 = st := ⟨_, rfl⟩
          obtain ⟨gs, hgs⟩ : ∃ gs, (setG h8 p8 q8).1 = gs := ⟨_, rfl⟩
          have i1 := fun w (h : GRd w A8 n8 B8 m8 h8) => implSetValue_is w (c := c8) (d := d8) h p8 q8
          have i2 := fun w (h : GRd w A8 n8 B8 m8 h8) => specSetValue_is w (c := c8) (d := d8) h p8 q8
          simp only [hst, hgs] at i1 i2
          have I1 := Lib.hid i1
          have I2 := Lib.hid i2
          clear i1 i2 hst hgs
          have lg180 := Xg18.cell 0
          have lg181 := Xg18.cell 1
          go_wp2_with fail
          rw [HWg18.out, HHg18.out]
          refine (I1.out _ G8).mono ?_
          rintro e w19 ⟨A21, n21, c21, B21, m21, d21, rfl, J21, hb⟩
          clear lg180 lg181
          have Bw19 := below_then Bw18 hb
          replace Xg18 := Xg18.below hb Xg18.lt
          replace G8 := G8.up hb
          clear hb
          clear Bw18
          have G21 := gis_any J21
          clear J21
          have bA : Below w19.heap.size w19 (w19.alloc (.cells #[.slice A21 n21 c21, .slice B21 m21 d21] 27)) := (Below.refl _ _).alloc (Nat.le_refl _) _
          have Xg21 := Blk.new w19 27 #[.slice A21 n21 c21, .slice B21 m21 d21]
          have BN := below_then Bw19 bA
          replace Xg18 := Xg18.below bA Xg18.lt
          replace G8 := G8.up bA
          replace G21 := G21.up bA
          clear bA Bw19
          generalize hwg21 : w19.alloc (.cells #[.slice A21 n21 c21, .slice B21 m21 d21] 27) = w20 at *
          generalize hhg21 : w19.heap.size = bg21 at *
          have HWg21 := Lib.hid hwg21
          have HHg21 := Lib.hid hhg21
          clear hwg21 hhg21
          have Bw20 := BN
          clear BN
          have lg180 := Xg18.cell 0
          rw [← HWg21.out] at lg180
          have lg181 := Xg18.cell 1
          rw [← HWg21.out] at lg181
          go_wp2_with fail
          rw [HWg21.out, HHg21.out]
          refine (I2.out _ G8).mono ?_
          rintro e w21 ⟨A23, n23, c23, B23, m23, d23, rfl, J23, hb⟩
          clear lg180 lg181
          have Bw21 := below_then Bw20 hb
          replace Xg18 := Xg18.below hb Xg18.lt
          replace Xg21 := Xg21.below hb Xg21.lt
          replace G8 := G8.up hb
          replace G21 := G21.up hb
          clear hb
          clear Bw20
          have G23 := gis_any J23
          clear J23 I1 I2
          have bA : Below w21.heap.size w21 (w21.alloc (.cells #[.slice A23 n23 c23, .slice B23 m23 d23] 27)) := (Below.refl _ _).alloc (Nat.le_refl _) _
          have Xg23 := Blk.new w21 27 #[.slice A23 n23 c23, .slice B23 m23 d23]
          have BN := below_then Bw21 bA
          replace Xg18 := Xg18.below bA Xg18.lt
          replace Xg21 := Xg21.below bA Xg21.lt
          replace G8 := G8.up bA
          replace G21 := G21.up bA
          replace G23 := G23.up bA
          clear bA Bw21
          generalize hwg23 : w21.alloc (.cells #[.slice A23 n23 c23, .slice B23 m23 d23] 27) = w22 at *
          generalize hhg23 : w21.heap.size = bg23 at *
          have HWg23 := Lib.hid hwg23
          have HHg23 := Lib.hid hhg23
          clear hwg23 hhg23
          have Bw22 := BN
          clear BN
          obtain ⟨y9, hy9⟩ : ∃ y : Kept w22, w22 = y.W := ⟨⟨w22, Below.refl _ _⟩, rfl⟩
          have HY9 := Lib.hid hy9
          clear hy9
          have kg180 := Xg18.kc (v := .slice A8 n8 c8) 0 rfl
          have kg181 := Xg18.kc (v := .slice B8 m8 d8) 1 rfl
          have kg210 := Xg21.kc (v := .slice A21 n21 c21) 0 rfl
          have kg211 := Xg21.kc (v := .slice B21 m21 d21) 1 rfl
          have kg230 := Xg23.kc (v := .slice A23 n23 c23) 0 rfl
          have kg231 := Xg23.kc (v := .slice B23 m23 d23) 1 rfl
          have HG8 : RowKit.Hid (∀ x : Kept w22, GRd x.W A8 n8 B8 m8 h8) := Lib.hid fun x => G8.up x.be
          have HG21 : RowKit.Hid (∀ x : Kept w22, GRd x.W A21 n21 B21 m21 gs) := Lib.hid fun x => G21.up x.be
          have HG23 : RowKit.Hid (∀ x : Kept w22, GRd x.W A23 n23 B23 m23 gs) := Lib.hid fun x => G23.up x.be
          clear Xg18 Xg21 Xg23 G8 G21 G23
          cases st
          · go_wp2_with fail
            rw [HWg23.out, HHg23.out, HY9.out]
            refine wp_region_sl [145, 146, 147, 148, 149, 150, 151, 152, 153, 154, 155, 156, 157, 158, 159, 2] (JR w22 [.bool false, .bool false, .bool true, .bool true, .agg #[.slice A21 n21 c21, .slice B21 m21 d21], .agg #[.slice A23 n23 c23, .slice B23 m23 d23], .bool true, .bool true, .bool true, .agg #[.slice A8 n8 c8, .slice B8 m8 d8], undef, undef, .agg #[.slice A8 n8 c8, .slice B8 m8 d8], .bool true, .bool true, .bool true] [none, none, none, none, none, none, none, none, none, none, some (revG h8), some (revG (revG h8)), none, none, none, none] [145, 146, 147, 148, 149, 150, 151, 152, 153, 154, 155, 156, 157, 158, 159, 2]) (by kernel_rfl) (by kernel_rfl) (by decide) (by intro d hd; simp at hd; simp; omega) (by kernel_rfl) ?h0 ?hstep ?hend
            case h0 => exact ⟨⟨⟨y9.W.drew, below_then y9.be ((Below.refl _ _).drew)⟩, rfl⟩, (fun k _ hk => absurd hk Bool.false_ne_true)⟩
            case hstep =>
              intro i L f w' o b K ho hLi hwt hcl hJ hS HK HN
              have hi : i < 16 := by simpa using (Array.getElem?_eq_some_iff.1 ho).1
              rcases (show i = 0 ∨ i = 1 ∨ i = 2 ∨ i = 3 ∨ i = 4 ∨ i = 5 ∨ i = 6 ∨ i = 7 ∨ i = 8 ∨ i = 9 ∨ i = 10 ∨ i = 11 ∨ i = 12 ∨ i = 13 ∨ i = 14 ∨ i = 15 by omega) with rfl | rfl | rfl | rfl | rfl | rfl | rfl | rfl | rfl | rfl | rfl | rfl | rfl | rfl | rfl | rfl
              all_goals
                simp only [List.getElem?_toArray, List.getElem?_cons_zero, List.getElem?_cons_succ, Option.some.injEq] at ho
                subst ho
                clear hi hcl
              · obtain ⟨x, rfl⟩ := hJ.k
                have s22 : b.tmps.getD 22 undef = .bool false := hS.o 22 (by decide)
                go_simp
                exact HK.out 145 _ _ rfl (hJ.put (by decide) (by decide) (Below.refl _ _) rfl)
              · obtain ⟨x, rfl⟩ := hJ.k
                have s24 : b.tmps.getD 24 undef = .bool false := hS.o 24 (by decide)
                go_simp
                exact HK.out 146 _ _ rfl (hJ.put (by decide) (by decide) (Below.refl _ _) rfl)
              · obtain ⟨x, rfl⟩ := hJ.k
                have s145 : b.tmps.getD 145 undef = .bool false := (hS.i 145 (by decide)).trans (hJ.v 0 (by decide) (hwt ⟨0, .data⟩ (by simp) rfl))
                have s146 : b.tmps.getD 146 undef = .bool false := (hS.i 146 (by decide)).trans (hJ.v 1 (by decide) (hwt ⟨1, .data⟩ (by simp) rfl))
                go_simp
                exact HK.out 147 _ _ rfl (hJ.put (by decide) (by decide) (Below.refl _ _) rfl)
              · obtain ⟨x, rfl⟩ := hJ.k
                have s147 : b.tmps.getD 147 undef = .bool true := (hS.i 147 (by decide)).trans (hJ.v 2 (by decide) (hwt ⟨2, .data⟩ (by simp) rfl))
                go_simp
                exact HK.out 148 _ _ rfl (hJ.put (by decide) (by decide) (Below.refl _ _) rfl)
              · obtain ⟨x, rfl⟩ := hJ.k
                have s148 : b.tmps.getD 148 undef = .bool true := (hS.i 148 (by decide)).trans (hJ.v 3 (by decide) (hwt ⟨3, .guard⟩ (by simp) rfl))
                have s21 : b.tmps.getD 21 undef = .pointer (some ⟨bg21, 0, none⟩) := hS.o 21 (by decide)
                have u0 := kg210 x
                have u1 := kg211 x
                rw [if_pos (wanted_of rfl rfl s148)]
                go_simp
                exact HK.out 149 _ _ rfl (hJ.put (by decide) (by decide) (Below.refl _ _) rfl)
              · obtain ⟨x, rfl⟩ := hJ.k
                have s148 : b.tmps.getD 148 undef = .bool true := (hS.i 148 (by decide)).trans (hJ.v 3 (by decide) (hwt ⟨3, .guard⟩ (by simp) rfl))
                have s23 : b.tmps.getD 23 undef = .pointer (some ⟨bg23, 0, none⟩) := hS.o 23 (by decide)
                have u0 := kg230 x
                have u1 := kg231 x
                rw [if_pos (wanted_of rfl rfl s148)]
                go_simp
                exact HK.out 150 _ _ rfl (hJ.put (by decide) (by decide) (Below.refl _ _) rfl)
              · obtain ⟨x, rfl⟩ := hJ.k
                have s148 : b.tmps.getD 148 undef = .bool true := (hS.i 148 (by decide)).trans (hJ.v 3 (by decide) (hwt ⟨3, .guard⟩ (by simp) rfl))
                have s149 : b.tmps.getD 149 undef = .agg #[.slice A21 n21 c21, .slice B21 m21 d21] := (hS.i 149 (by decide)).trans (hJ.v 4 (by decide) (hwt ⟨4, .data⟩ (by simp) rfl))
                have s150 : b.tmps.getD 150 undef = .agg #[.slice A23 n23 c23, .slice B23 m23 d23] := (hS.i 150 (by decide)).trans (hJ.v 5 (by decide) (hwt ⟨5, .data⟩ (by simp) rfl))
                rw [if_pos (wanted_of rfl rfl s148)]
                go_simp
                refine (eqG_rd x.W (c := c21) (d := d21) (c2 := c23) (d2 := d23) (HG21.out x) (HG23.out x)).mono ?_
                rintro e w'' ⟨rfl, hb⟩
                rw [decide_eq_true rfl]
                go_simp
                exact HK.out 151 _ _ rfl (hJ.put (by decide) (by decide) hb rfl)
              · obtain ⟨x, rfl⟩ := hJ.k
                have s148 : b.tmps.getD 148 undef = .bool true := (hS.i 148 (by decide)).trans (hJ.v 3 (by decide) (hwt ⟨3, .data⟩ (by simp) rfl))
                have s151 : b.tmps.getD 151 undef = .bool true := (hS.i 151 (by decide)).trans (hJ.v 6 (by decide) (hwt ⟨6, .data⟩ (by simp) rfl))
                go_simp
                exact HK.out 152 _ _ rfl (hJ.put (by decide) (by decide) (Below.refl _ _) rfl)
              · obtain ⟨x, rfl⟩ := hJ.k
                have s152 : b.tmps.getD 152 undef = .bool true := (hS.i 152 (by decide)).trans (hJ.v 7 (by decide) (hwt ⟨7, .data⟩ (by simp) rfl))
                go_simp
                exact HK.out 153 _ _ rfl (hJ.put (by decide) (by decide) (Below.refl _ _) rfl)
              · obtain ⟨x, rfl⟩ := hJ.k
                have s153 : b.tmps.getD 153 undef = .bool true := (hS.i 153 (by decide)).trans (hJ.v 8 (by decide) (hwt ⟨8, .guard⟩ (by simp) rfl))
                have s18 : b.tmps.getD 18 undef = .pointer (some ⟨bg18, 0, none⟩) := hS.o 18 (by decide)
                have u0 := kg180 x
                have u1 := kg181 x
                rw [if_pos (wanted_of rfl rfl s153)]
                go_simp
                exact HK.out 154 _ _ rfl (hJ.put (by decide) (by decide) (Below.refl _ _) rfl)
              · obtain ⟨x, rfl⟩ := hJ.k
                have s153 : b.tmps.getD 153 undef = .bool true := (hS.i 153 (by decide)).trans (hJ.v 8 (by decide) (hwt ⟨8, .guard⟩ (by simp) rfl))
                have s154 : b.tmps.getD 154 undef = .agg #[.slice A8 n8 c8, .slice B8 m8 d8] := (hS.i 154 (by decide)).trans (hJ.v 9 (by decide) (hwt ⟨9, .data⟩ (by simp) rfl))
                rw [if_pos (wanted_of rfl rfl s153)]
                go_simp
                refine (implReverseGraph_is x.W (c := c8) (d := d8) (HG8.out x)).mono ?_
                rintro e w'' ⟨A7, n7, c7, B7, m7, d7, rfl, J7, hb⟩
                go_simp
                exact HK.out 155 _ _ rfl (hJ.put (by decide) (by decide) hb ⟨_, _, _, _, _, _, rfl, gis_any J7⟩)
              · obtain ⟨x, rfl⟩ := hJ.k
                have s153 : b.tmps.getD 153 undef = .bool true := (hS.i 153 (by decide)).trans (hJ.v 8 (by decide) (hwt ⟨8, .guard⟩ (by simp) rfl))
                obtain ⟨A6, n6, c6, B6, m6, d6, hs6, G6⟩ := hJ.v 10 (by decide) (hwt ⟨10, .data⟩ (by simp) rfl)
                have s155 : b.tmps.getD 155 undef = .agg #[.slice A6 n6 c6, .slice B6 m6 d6] := (hS.i 155 (by decide)).trans hs6
                clear hs6
                rw [if_pos (wanted_of rfl rfl s153)]
                go_simp
                refine (implReverseGraph_is x.W (c := c6) (d := d6) G6).mono ?_
                rintro e w'' ⟨A7, n7, c7, B7, m7, d7, rfl, J7, hb⟩
                go_simp
                exact HK.out 156 _ _ rfl (hJ.put (by decide) (by decide) hb ⟨_, _, _, _, _, _, rfl, gis_any J7⟩)
              · obtain ⟨x, rfl⟩ := hJ.k
                have s153 : b.tmps.getD 153 undef = .bool true := (hS.i 153 (by decide)).trans (hJ.v 8 (by decide) (hwt ⟨8, .guard⟩ (by simp) rfl))
                have s18 : b.tmps.getD 18 undef = .pointer (some ⟨bg18, 0, none⟩) := hS.o 18 (by decide)
                have u0 := kg180 x
                have u1 := kg181 x
                rw [if_pos (wanted_of rfl rfl s153)]
                go_simp
                exact HK.out 157 _ _ rfl (hJ.put (by decide) (by decide) (Below.refl _ _) rfl)
              · obtain ⟨x, rfl⟩ := hJ.k
                have s153 : b.tmps.getD 153 undef = .bool true := (hS.i 153 (by decide)).trans (hJ.v 8 (by decide) (hwt ⟨8, .guard⟩ (by simp) rfl))
                obtain ⟨A6, n6, c6, B6, m6, d6, hs6, G6⟩ := hJ.v 11 (by decide) (hwt ⟨11, .data⟩ (by simp) rfl)
                have s156 : b.tmps.getD 156 undef = .agg #[.slice A6 n6 c6, .slice B6 m6 d6] := (hS.i 156 (by decide)).trans hs6
                clear hs6
                have s157 : b.tmps.getD 157 undef = .agg #[.slice A8 n8 c8, .slice B8 m8 d8] := (hS.i 157 (by decide)).trans (hJ.v 12 (by decide) (hwt ⟨12, .data⟩ (by simp) rfl))
                rw [if_pos (wanted_of rfl rfl s153)]
                go_simp
                refine (eqG_rd x.W (c := c6) (d := d6) (c2 := c8) (d2 := d8) G6 (HG8.out x)).mono ?_
                rintro e w'' ⟨rfl, hb⟩
                rw [decide_eq_true (revG_two h8)]
                go_simp
                exact HK.out 158 _ _ rfl (hJ.put (by decide) (by decide) hb rfl)
              · obtain ⟨x, rfl⟩ := hJ.k
                have s153 : b.tmps.getD 153 undef = .bool true := (hS.i 153 (by decide)).trans (hJ.v 8 (by decide) (hwt ⟨8, .data⟩ (by simp) rfl))
                have s158 : b.tmps.getD 158 undef = .bool true := (hS.i 158 (by decide)).trans (hJ.v 13 (by decide) (hwt ⟨13, .data⟩ (by simp) rfl))
                go_simp
                exact HK.out 159 _ _ rfl (hJ.put (by decide) (by decide) (Below.refl _ _) rfl)
              · obtain ⟨x, rfl⟩ := hJ.k
                have s159 : b.tmps.getD 159 undef = .bool true := (hS.i 159 (by decide)).trans (hJ.v 14 (by decide) (hwt ⟨14, .data⟩ (by simp) rfl))
                go_simp
                exact HK.out 2 _ _ rfl (hJ.put (by decide) (by decide) (Below.refl _ _) rfl)
            case hend =>
              intro L f w' hall hJ
              have h2_ : f 2 = .bool true := hJ.v 15 (by decide) (hall 15 (by decide))
              obtain ⟨z9, rfl⟩ := hJ.k
              clear hall hJ
              have BF := below_then Bw22 z9.be
              simp only [chs, Act.put, List.setIfInBounds_toArray, List.set_cons_zero, List.set_cons_succ, h2_]
              go_wp2
              go_ret
              exact ⟨by simp, BF⟩
          · go_wp2_with fail
            rw [HWg23.out, HHg23.out, HY9.out]
            refine wp_region_sl [145, 146, 147, 148, 149, 150, 151, 152, 153, 154, 155, 156, 157, 158, 159, 2] (JR w22 [.bool true, .bool true, .bool true, .bool true, .agg #[.slice A21 n21 c21, .slice B21 m21 d21], .agg #[.slice A23 n23 c23, .slice B23 m23 d23], .bool true, .bool true, .bool true, .agg #[.slice A8 n8 c8, .slice B8 m8 d8], undef, undef, .agg #[.slice A8 n8 c8, .slice B8 m8 d8], .bool true, .bool true, .bool true] [none, none, none, none, none, none, none, none, none, none, some (revG h8), some (revG (revG h8)), none, none, none, none] [145, 146, 147, 148, 149, 150, 151, 152, 153, 154, 155, 156, 157, 158, 159, 2]) (by kernel_rfl) (by kernel_rfl) (by decide) (by intro d hd; simp at hd; simp; omega) (by kernel_rfl) ?h0 ?hstep ?hend
            case h0 => exact ⟨⟨⟨y9.W.drew, below_then y9.be ((Below.refl _ _).drew)⟩, rfl⟩, (fun k _ hk => absurd hk Bool.false_ne_true)⟩
            case hstep =>
              intro i L f w' o b K ho hLi hwt hcl hJ hS HK HN
              have hi : i < 16 := by simpa using (Array.getElem?_eq_some_iff.1 ho).1
              rcases (show i = 0 ∨ i = 1 ∨ i = 2 ∨ i = 3 ∨ i = 4 ∨ i = 5 ∨ i = 6 ∨ i = 7 ∨ i = 8 ∨ i = 9 ∨ i = 10 ∨ i = 11 ∨ i = 12 ∨ i = 13 ∨ i = 14 ∨ i = 15 by omega) with rfl | rfl | rfl | rfl | rfl | rfl | rfl | rfl | rfl | rfl | rfl | rfl | rfl | rfl | rfl | rfl
              all_goals
                simp only [List.getElem?_toArray, List.getElem?_cons_zero, List.getElem?_cons_succ, Option.some.injEq] at ho
                subst ho
                clear hi hcl
              · obtain ⟨x, rfl⟩ := hJ.k
                have s22 : b.tmps.getD 22 undef = .bool true := hS.o 22 (by decide)
                go_simp
                exact HK.out 145 _ _ rfl (hJ.put (by decide) (by decide) (Below.refl _ _) rfl)
              · obtain ⟨x, rfl⟩ := hJ.k
                have s24 : b.tmps.getD 24 undef = .bool true := hS.o 24 (by decide)
                go_simp
                exact HK.out 146 _ _ rfl (hJ.put (by decide) (by decide) (Below.refl _ _) rfl)
              · obtain ⟨x, rfl⟩ := hJ.k
                have s145 : b.tmps.getD 145 undef = .bool true := (hS.i 145 (by decide)).trans (hJ.v 0 (by decide) (hwt ⟨0, .data⟩ (by simp) rfl))
                have s146 : b.tmps.getD 146 undef = .bool true := (hS.i 146 (by decide)).trans (hJ.v 1 (by decide) (hwt ⟨1, .data⟩ (by simp) rfl))
                go_simp
                exact HK.out 147 _ _ rfl (hJ.put (by decide) (by decide) (Below.refl _ _) rfl)
              · obtain ⟨x, rfl⟩ := hJ.k
                have s147 : b.tmps.getD 147 undef = .bool true := (hS.i 147 (by decide)).trans (hJ.v 2 (by decide) (hwt ⟨2, .data⟩ (by simp) rfl))
                go_simp
                exact HK.out 148 _ _ rfl (hJ.put (by decide) (by decide) (Below.refl _ _) rfl)
              · obtain ⟨x, rfl⟩ := hJ.k
                have s148 : b.tmps.getD 148 undef = .bool true := (hS.i 148 (by decide)).trans (hJ.v 3 (by decide) (hwt ⟨3, .guard⟩ (by simp) rfl))
                have s21 : b.tmps.getD 21 undef = .pointer (some ⟨bg21, 0, none⟩) := hS.o 21 (by decide)
                have u0 := kg210 x
                have u1 := kg211 x
                rw [if_pos (wanted_of rfl rfl s148)]
                go_simp
                exact HK.out 149 _ _ rfl (hJ.put (by decide) (by decide) (Below.refl _ _) rfl)
              · obtain ⟨x, rfl⟩ := hJ.k
                have s148 : b.tmps.getD 148 undef = .bool true := (hS.i 148 (by decide)).trans (hJ.v 3 (by decide) (hwt ⟨3, .guard⟩ (by simp) rfl))
                have s23 : b.tmps.getD 23 undef = .pointer (some ⟨bg23, 0, none⟩) := hS.o 23 (by decide)
                have u0 := kg230 x
                have u1 := kg231 x
                rw [if_pos (wanted_of rfl rfl s148)]
                go_simp
                exact HK.out 150 _ _ rfl (hJ.put (by decide) (by decide) (Below.refl _ _) rfl)
              · obtain ⟨x, rfl⟩ := hJ.k
                have s148 : b.tmps.getD 148 undef = .bool true := (hS.i 148 (by decide)).trans (hJ.v 3 (by decide) (hwt ⟨3, .guard⟩ (by simp) rfl))
                have s149 : b.tmps.getD 149 undef = .agg #[.slice A21 n21 c21, .slice B21 m21 d21] := (hS.i 149 (by decide)).trans (hJ.v 4 (by decide) (hwt ⟨4, .data⟩ (by simp) rfl))
                have s150 : b.tmps.getD 150 undef = .agg #[.slice A23 n23 c23, .slice B23 m23 d23] := (hS.i 150 (by decide)).trans (hJ.v 5 (by decide) (hwt ⟨5, .data⟩ (by simp) rfl))
                rw [if_pos (wanted_of rfl rfl s148)]
                go_simp
                refine (eqG_rd x.W (c := c21) (d := d21) (c2 := c23) (d2 := d23) (HG21.out x) (HG23.out x)).mono ?_
                rintro e w'' ⟨rfl, hb⟩
                rw [decide_eq_true rfl]
                go_simp
                exact HK.out 151 _ _ rfl (hJ.put (by decide) (by decide) hb rfl)
              · obtain ⟨x, rfl⟩ := hJ.k
                have s148 : b.tmps.getD 148 undef = .bool true := (hS.i 148 (by decide)).trans (hJ.v 3 (by decide) (hwt ⟨3, .data⟩ (by simp) rfl))
                have s151 : b.tmps.getD 151 undef = .bool true := (hS.i 151 (by decide)).trans (hJ.v 6 (by decide) (hwt ⟨6, .data⟩ (by simp) rfl))
                go_simp
                exact HK.out 152 _ _ rfl (hJ.put (by decide) (by decide) (Below.refl _ _) rfl)
              · obtain ⟨x, rfl⟩ := hJ.k
                have s152 : b.tmps.getD 152 undef = .bool true := (hS.i 152 (by decide)).trans (hJ.v 7 (by decide) (hwt ⟨7, .data⟩ (by simp) rfl))
                go_simp
                exact HK.out 153 _ _ rfl (hJ.put (by decide) (by decide) (Below.refl _ _) rfl)
              · obtain ⟨x, rfl⟩ := hJ.k
                have s153 : b.tmps.getD 153 undef = .bool true := (hS.i 153 (by decide)).trans (hJ.v 8 (by decide) (hwt ⟨8, .guard⟩ (by simp) rfl))
                have s18 : b.tmps.getD 18 undef = .pointer (some ⟨bg18, 0, none⟩) := hS.o 18 (by decide)
                have u0 := kg180 x
                have u1 := kg181 x
                rw [if_pos (wanted_of rfl rfl s153)]
                go_simp
                exact HK.out 154 _ _ rfl (hJ.put (by decide) (by decide) (Below.refl _ _) rfl)
              · obtain ⟨x, rfl⟩ := hJ.k
                have s153 : b.tmps.getD 153 undef = .bool true := (hS.i 153 (by decide)).trans (hJ.v 8 (by decide) (hwt ⟨8, .guard⟩ (by simp) rfl))
                have s154 : b.tmps.getD 154 undef = .agg #[.slice A8 n8 c8, .slice B8 m8 d8] := (hS.i 154 (by decide)).trans (hJ.v 9 (by decide) (hwt ⟨9, .data⟩ (by simp) rfl))
                rw [if_pos (wanted_of rfl rfl s153)]
                go_simp
                refine (implReverseGraph_is x.W (c := c8) (d := d8) (HG8.out x)).mono ?_
                rintro e w'' ⟨A7, n7, c7, B7, m7, d7, rfl, J7, hb⟩
                go_simp
                exact HK.out 155 _ _ rfl (hJ.put (by decide) (by decide) hb ⟨_, _, _, _, _, _, rfl, gis_any J7⟩)
              · obtain ⟨x, rfl⟩ := hJ.k
                have s153 : b.tmps.getD 153 undef = .bool true := (hS.i 153 (by decide)).trans (hJ.v 8 (by decide) (hwt ⟨8, .guard⟩ (by simp) rfl))
                obtain ⟨A6, n6, c6, B6, m6, d6, hs6, G6⟩ := hJ.v 10 (by decide) (hwt ⟨10, .data⟩ (by simp) rfl)
                have s155 : b.tmps.getD 155 undef = .agg #[.slice A6 n6 c6, .slice B6 m6 d6] := (hS.i 155 (by decide)).trans hs6
                clear hs6
                rw [if_pos (wanted_of rfl rfl s153)]
                go_simp
                refine (implReverseGraph_is x.W (c := c6) (d := d6) G6).mono ?_
                rintro e w'' ⟨A7, n7, c7, B7, m7, d7, rfl, J7, hb⟩
                go_simp
                exact HK.out 156 _ _ rfl (hJ.put (by decide) (by decide) hb ⟨_, _, _, _, _, _, rfl, gis_any J7⟩)
              · obtain ⟨x, rfl⟩ := hJ.k
                have s153 : b.tmps.getD 153 undef = .bool true := (hS.i 153 (by decide)).trans (hJ.v 8 (by decide) (hwt ⟨8, .guard⟩ (by simp) rfl))
                have s18 : b.tmps.getD 18 undef = .pointer (some ⟨bg18, 0, none⟩) := hS.o 18 (by decide)
                have u0 := kg180 x
                have u1 := kg181 x
                rw [if_pos (wanted_of rfl rfl s153)]
                go_simp
                exact HK.out 157 _ _ rfl (hJ.put (by decide) (by decide) (Below.refl _ _) rfl)
              · obtain ⟨x, rfl⟩ := hJ.k
                have s153 : b.tmps.getD 153 undef = .bool true := (hS.i 153 (by decide)).trans (hJ.v 8 (by decide) (hwt ⟨8, .guard⟩ (by simp) rfl))
                obtain ⟨A6, n6, c6, B6, m6, d6, hs6, G6⟩ := hJ.v 11 (by decide) (hwt ⟨11, .data⟩ (by simp) rfl)
                have s156 : b.tmps.getD 156 undef = .agg #[.slice A6 n6 c6, .slice B6 m6 d6] := (hS.i 156 (by decide)).trans hs6
                clear hs6
                have s157 : b.tmps.getD 157 undef = .agg #[.slice A8 n8 c8, .slice B8 m8 d8] := (hS.i 157 (by decide)).trans (hJ.v 12 (by decide) (hwt ⟨12, .data⟩ (by simp) rfl))
                rw [if_pos (wanted_of rfl rfl s153)]
                go_simp
                refine (eqG_rd x.W (c := c6) (d := d6) (c2 := c8) (d2 := d8) G6 (HG8.out x)).mono ?_
                rintro e w'' ⟨rfl, hb⟩
                rw [decide_eq_true (revG_two h8)]
                go_simp
                exact HK.out 158 _ _ rfl (hJ.put (by decide) (by decide) hb rfl)
              · obtain ⟨x, rfl⟩ := hJ.k
                have s153 : b.tmps.getD 153 undef = .bool true := (hS.i 153 (by decide)).trans (hJ.v 8 (by decide) (hwt ⟨8, .data⟩ (by simp) rfl))
                have s158 : b.tmps.getD 158 undef = .bool true := (hS.i 158 (by decide)).trans (hJ.v 13 (by decide) (hwt ⟨13, .data⟩ (by simp) rfl))
                go_simp
                exact HK.out 159 _ _ rfl (hJ.put (by decide) (by decide) (Below.refl _ _) rfl)
              · obtain ⟨x, rfl⟩ := hJ.k
                have s159 : b.tmps.getD 159 undef = .bool true := (hS.i 159 (by decide)).trans (hJ.v 14 (by decide) (hwt ⟨14, .data⟩ (by simp) rfl))
                go_simp
                exact HK.out 2 _ _ rfl (hJ.put (by decide) (by decide) (Below.refl _ _) rfl)
            case hend =>
              intro L f w' hall hJ
              have h2_ : f 2 = .bool true := hJ.v 15 (by decide) (hall 15 (by decide))
              obtain ⟨z9, rfl⟩ := hJ.k
              clear hall hJ
              have BF := below_then Bw22 z9.be
              simp only [chs, Act.put, List.setIfInBounds_toArray, List.set_cons_zero, List.set_cons_succ, h2_]
              go_wp2
              go_ret
              exact ⟨by simp, BF⟩
        · have hfe := implFormatEdge_any w16 (TP.up Bw16) y
          rw [HBK.out rfl, show (⟨T.data.toList.toArray⟩ : ByteArray) = T from rfl] at hfe
          have HFE := Lib.hid hfe
          clear hfe
          have le160 := Xe16.cell 0
          have le161 := Xe16.cell 1
          have le162 := Xe16.cell 2
          have le163 := Xe16.cell 3
          go_wp2_with fail
          rw [HWe16.out, HHe16.out]
          refine (HFE.out).mono ?_
          rintro e w17 ⟨rfl, hb⟩
          clear le160 le161 le162 le163
          clear HFE
          have Bw17 := below_then Bw16 hb
          replace Xe16 := Xe16.below hb Xe16.lt
          clear hb
          clear Bw16
          clear Xe16 HBK
          go_wp2_with fail
          refine (drawSet_any w17 (R0.up Bw17)).mono ?_
          rintro e w18 ⟨A8, n8, c8, B8, m8, d8, p8, q8, rfl, ⟨vs8, es8, G8⟩, _, _, hb⟩
          obtain ⟨h8, hh8⟩ : ∃ g : G, (⟨vs8, es8⟩ : G) = g := ⟨_, rfl⟩
          rw [hh8] at G8
          clear hh8
          have Bw18 := below_then Bw17 hb
          clear hb
          clear Bw17
          have bA : Below w18.heap.size w18 (w18.alloc (.cells #[.slice A8 n8 c8, .slice B8 m8 d8] 27)) := (Below.refl _ _).alloc (Nat.le_refl _) _
          have Xg18 := Blk.new w18 27 #[.slice A8 n8 c8, .slice B8 m8 d8]
          have BN := below_then Bw18 bA
          replace G8 := G8.up bA
          clear bA Bw18
          generalize hwg18 : w18.alloc (.cells #[.slice A8 n8 c8, .slice B8 m8 d8] 27) = w19 at *
          generalize hhg18 : w18.heap.size = bg18 at *
          have HWg18 := Lib.hid hwg18
          have HHg18 := Lib.hid hhg18
          clear hwg18 hhg18
          have Bw19 := BN
          clear BN
          obtain ⟨st, hst⟩ : ∃ st, (setG h8 p8 q8).2 = st := ⟨_, rfl⟩
          obtain ⟨gs, hgs⟩ : ∃ gs, (setG h8 p8 q8).1 = gs := ⟨_, rfl⟩
          have i1 := fun w (h : GRd w A8 n8 B8 m8 h8) => implSetValue_is w (c := c8) (d := d8) h p8 q8
          have i2 := fun w (h : GRd w A8 n8 B8 m8 h8) => specSetValue_is w (c := c8) (d := d8) h p8 q8
          simp only [hst, hgs] at i1 i2
          have I1 := Lib.hid i1
          have I2 := Lib.hid i2
          clear i1 i2 hst hgs
          have lg180 := Xg18.cell 0
          have lg181 := Xg18.cell 1
          go_wp2_with fail
          rw [HWg18.out, HHg18.out]
          refine (I1.out _ G8).mono ?_
          rintro e w20 ⟨A21, n21, c21, B21, m21, d21, rfl, J21, hb⟩
          clear lg180 lg181
          have Bw20 := below_then Bw19 hb
          replace Xg18 := Xg18.below hb Xg18.lt
          replace G8 := G8.up hb
          clear hb
          clear Bw19
          have G21 := gis_any J21
          clear J21
          have bA : Below w20.heap.size w20 (w20.alloc (.cells #[.slice A21 n21 c21, .slice B21 m21 d21] 27)) := (Below.refl _ _).alloc (Nat.le_refl _) _
          have Xg21 := Blk.new w20 27 #[.slice A21 n21 c21, .slice B21 m21 d21]
          have BN := below_then Bw20 bA
          replace Xg18 := Xg18.below bA Xg18.lt
          replace G8 := G8.up bA
          replace G21 := G21.up bA
          clear bA Bw20
          generalize hwg21 : w20.alloc (.cells #[.slice A21 n21 c21, .slice B21 m21 d21] 27) = w21 at *
          generalize hhg21 : w20.heap.size = bg21 at *
          have HWg21 := Lib.hid hwg21
          have HHg21 := Lib.hid hhg21
          clear hwg21 hhg21
          have Bw21 := BN
          clear BN
          have lg180 := Xg18.cell 0
          rw [← HWg21.out] at lg180
          have lg181 := Xg18.cell 1
          rw [← HWg21.out] at lg181
          go_wp2_with fail
          rw [HWg21.out, HHg21.out]
          refine (I2.out _ G8).mono ?_
          rintro e w22 ⟨A23, n23, c23, B23, m23, d23, rfl, J23, hb⟩
          clear lg180 lg181
          have Bw22 := below_then Bw21 hb
          replace Xg18 := Xg18.below hb Xg18.lt
          replace Xg21 := Xg21.below hb Xg21.lt
          replace G8 := G8.up hb
          replace G21 := G21.up hb
          clear hb
          clear Bw21
          have G23 := gis_any J23
          clear J23 I1 I2
          have bA : Below w22.heap.size w22 (w22.alloc (.cells #[.slice A23 n23 c23, .slice B23 m23 d23] 27)) := (Below.refl _ _).alloc (Nat.le_refl _) _
          have Xg23 := Blk.new w22 27 #[.slice A23 n23 c23, .slice B23 m23 d23]
          have BN := below_then Bw22 bA
          replace Xg18 := Xg18.below bA Xg18.lt
          replace Xg21 := Xg21.below bA Xg21.lt
          replace G8 := G8.up bA
          replace G21 := G21.up bA
          replace G23 := G23.up bA
          clear bA Bw22
          generalize hwg23 : w22.alloc (.cells #[.slice A23 n23 c23, .slice B23 m23 d23] 27) = w23 at *
          generalize hhg23 : w22.heap.size = bg23 at *
          have HWg23 := Lib.hid hwg23
          have HHg23 := Lib.hid hhg23
          clear hwg23 hhg23
          have Bw23 := BN
          clear BN
          obtain ⟨y9, hy9⟩ : ∃ y : Kept w23, w23 = y.W := ⟨⟨w23, Below.refl _ _⟩, rfl⟩
          have HY9 := Lib.hid hy9
          clear hy9
          have kg180 := Xg18.kc (v := .slice A8 n8 c8) 0 rfl
          have kg181 := Xg18.kc (v := .slice B8 m8 d8) 1 rfl
          have kg210 := Xg21.kc (v := .slice A21 n21 c21) 0 rfl
          have kg211 := Xg21.kc (v := .slice B21 m21 d21) 1 rfl
          have kg230 := Xg23.kc (v := .slice A23 n23 c23) 0 rfl
          have kg231 := Xg23.kc (v := .slice B23 m23 d23) 1 rfl
          have HG8 : RowKit.Hid (∀ x : Kept w23, GRd x.W A8 n8 B8 m8 h8) := Lib.hid fun x => G8.up x.be
          have HG21 : RowKit.Hid (∀ x : Kept w23, GRd x.W A21 n21 B21 m21 gs) := Lib.hid fun x => G21.up x.be
          have HG23 : RowKit.Hid (∀ x : Kept w23, GRd x.W A23 n23 B23 m23 gs) := Lib.hid fun x => G23.up x.be
          clear Xg18 Xg21 Xg23 G8 G21 G23
          cases st
          · go_wp2_with fail
            rw [HWg23.out, HHg23.out, HY9.out]
            refine wp_region_sl [145, 146, 147, 148, 149, 150, 151, 152, 153, 154, 155, 156, 157, 158, 159, 2] (JR w23 [.bool false, .bool false, .bool true, .bool true, .agg #[.slice A21 n21 c21, .slice B21 m21 d21], .agg #[.slice A23 n23 c23, .slice B23 m23 d23], .bool true, .bool true, .bool true, .agg #[.slice A8 n8 c8, .slice B8 m8 d8], undef, undef, .agg #[.slice A8 n8 c8, .slice B8 m8 d8], .bool true, .bool true, .bool true] [none, none, none, none, none, none, none, none, none, none, some (revG h8), some (revG (revG h8)), none, none, none, none] [145, 146, 147, 148, 149, 150, 151, 152, 153, 154, 155, 156, 157, 158, 159, 2]) (by kernel_rfl) (by kernel_rfl) (by decide) (by intro d hd; simp at hd; simp; omega) (by kernel_rfl) ?h0 ?hstep ?hend
            case h0 => exact ⟨⟨⟨y9.W.drew, below_then y9.be ((Below.refl _ _).drew)⟩, rfl⟩, (fun k _ hk => absurd hk Bool.false_ne_true)⟩
            case hstep =>
              intro i L f w' o b K ho hLi hwt hcl hJ hS HK HN
              have hi : i < 16 := by simpa using (Array.getElem?_eq_some_iff.1 ho).1
              rcases (show i = 0 ∨ i = 1 ∨ i = 2 ∨ i = 3 ∨ i = 4 ∨ i = 5 ∨ i = 6 ∨ i = 7 ∨ i = 8 ∨ i = 9 ∨ i = 10 ∨ i = 11 ∨ i = 12 ∨ i = 13 ∨ i = 14 ∨ i = 15 by omega) with rfl | rfl | rfl | rfl | rfl | rfl | rfl | rfl | rfl | rfl | rfl | rfl | rfl | rfl | rfl | rfl
              all_goals
                simp only [List.getElem?_toArray, List.getElem?_cons_zero, List.getElem?_cons_succ, Option.some.injEq] at ho
                subst ho
                clear hi hcl
              · obtain ⟨x, rfl⟩ := hJ.k
                have s22 : b.tmps.getD 22 undef = .bool false := hS.o 22 (by decide)
                go_simp
                exact HK.out 145 _ _ rfl (hJ.put (by decide) (by decide) (Below.refl _ _) rfl)
              · obtain ⟨x, rfl⟩ := hJ.k
                have s24 : b.tmps.getD 24 undef = .bool false := hS.o 24 (by decide)
                go_simp
                exact HK.out 146 _ _ rfl (hJ.put (by decide) (by decide) (Below.refl _ _) rfl)
              · obtain ⟨x, rfl⟩ := hJ.k
                have s145 : b.tmps.getD 145 undef = .bool false := (hS.i 145 (by decide)).trans (hJ.v 0 (by decide) (hwt ⟨0, .data⟩ (by simp) rfl))
                have s146 : b.tmps.getD 146 undef = .bool false := (hS.i 146 (by decide)).trans (hJ.v 1 (by decide) (hwt ⟨1, .data⟩ (by simp) rfl))
                go_simp
                exact HK.out 147 _ _ rfl (hJ.put (by decide) (by decide) (Below.refl _ _) rfl)
              · obtain ⟨x, rfl⟩ := hJ.k
                have s147 : b.tmps.getD 147 undef = .bool true := (hS.i 147 (by decide)).trans (hJ.v 2 (by decide) (hwt ⟨2, .data⟩ (by simp) rfl))
                go_simp
                exact HK.out 148 _ _ rfl (hJ.put (by decide) (by decide) (Below.refl _ _) rfl)
              · obtain ⟨x, rfl⟩ := hJ.k
                have s148 : b.tmps.getD 148 undef = .bool true := (hS.i 148 (by decide)).trans (hJ.v 3 (by decide) (hwt ⟨3, .guard⟩ (by simp) rfl))
                have s21 : b.tmps.getD 21 undef = .pointer (some ⟨bg21, 0, none⟩) := hS.o 21 (by decide)
                have u0 := kg210 x
                have u1 := kg211 x
                rw [if_pos (wanted_of rfl rfl s148)]
                go_simp
                exact HK.out 149 _ _ rfl (hJ.put (by decide) (by decide) (Below.refl _ _) rfl)
              · obtain ⟨x, rfl⟩ := hJ.k
                have s148 : b.tmps.getD 148 undef = .bool true := (hS.i 148 (by decide)).trans (hJ.v 3 (by decide) (hwt ⟨3, .guard⟩ (by simp) rfl))
                have s23 : b.tmps.getD 23 undef = .pointer (some ⟨bg23, 0, none⟩) := hS.o 23 (by decide)
                have u0 := kg230 x
                have u1 := kg231 x
                rw [if_pos (wanted_of rfl rfl s148)]
                go_simp
                exact HK.out 150 _ _ rfl (hJ.put (by decide) (by decide) (Below.refl _ _) rfl)
              · obtain ⟨x, rfl⟩ := hJ.k
                have s148 : b.tmps.getD 148 undef = .bool true := (hS.i 148 (by decide)).trans (hJ.v 3 (by decide) (hwt ⟨3, .guard⟩ (by simp) rfl))
                have s149 : b.tmps.getD 149 undef = .agg #[.slice A21 n21 c21, .slice B21 m21 d21] := (hS.i 149 (by decide)).trans (hJ.v 4 (by decide) (hwt ⟨4, .data⟩ (by simp) rfl))
                have s150 : b.tmps.getD 150 undef = .agg #[.slice A23 n23 c23, .slice B23 m23 d23] := (hS.i 150 (by decide)).trans (hJ.v 5 (by decide) (hwt ⟨5, .data⟩ (by simp) rfl))
                rw [if_pos (wanted_of rfl rfl s148)]
                go_simp
                refine (eqG_rd x.W (c := c21) (d := d21) (c2 := c23) (d2 := d23) (HG21.out x) (HG23.out x)).mono ?_
                rintro e w'' ⟨rfl, hb⟩
                rw [decide_eq_true rfl]
                go_simp
                exact HK.out 151 _ _ rfl (hJ.put (by decide) (by decide) hb rfl)
              · obtain ⟨x, rfl⟩ := hJ.k
                have s148 : b.tmps.getD 148 undef = .bool true := (hS.i 148 (by decide)).trans (hJ.v 3 (by decide) (hwt ⟨3, .data⟩ (by simp) rfl))
                have s151 : b.tmps.getD 151 undef = .bool true := (hS.i 151 (by decide)).trans (hJ.v 6 (by decide) (hwt ⟨6, .data⟩ (by simp) rfl))
                go_simp
                exact HK.out 152 _ _ rfl (hJ.put (by decide) (by decide) (Below.refl _ _) rfl)
              · obtain ⟨x, rfl⟩ := hJ.k
                have s152 : b.tmps.getD 152 undef = .bool true := (hS.i 152 (by decide)).trans (hJ.v 7 (by decide) (hwt ⟨7, .data⟩ (by simp) rfl))
                go_simp
                exact HK.out 153 _ _ rfl (hJ.put (by decide) (by decide) (Below.refl _ _) rfl)
              · obtain ⟨x, rfl⟩ := hJ.k
                have s153 : b.tmps.getD 153 undef = .bool true := (hS.i 153 (by decide)).trans (hJ.v 8 (by decide) (hwt ⟨8, .guard⟩ (by simp) rfl))
                have s18 : b.tmps.getD 18 undef = .pointer (some ⟨bg18, 0, none⟩) := hS.o 18 (by decide)
                have u0 := kg180 x
                have u1 := kg181 x
                rw [if_pos (wanted_of rfl rfl s153)]
                go_simp
                exact HK.out 154 _ _ rfl (hJ.put (by decide) (by decide) (Below.refl _ _) rfl)
              · obtain ⟨x, rfl⟩ := hJ.k
                have s153 : b.tmps.getD 153 undef = .bool true := (hS.i 153 (by decide)).trans (hJ.v 8 (by decide) (hwt ⟨8, .guard⟩ (by simp) rfl))
                have s154 : b.tmps.getD 154 undef = .agg #[.slice A8 n8 c8, .slice B8 m8 d8] := (hS.i 154 (by decide)).trans (hJ.v 9 (by decide) (hwt ⟨9, .data⟩ (by simp) rfl))
                rw [if_pos (wanted_of rfl rfl s153)]
                go_simp
                refine (implReverseGraph_is x.W (c := c8) (d := d8) (HG8.out x)).mono ?_
                rintro e w'' ⟨A7, n7, c7, B7, m7, d7, rfl, J7, hb⟩
                go_simp
                exact HK.out 155 _ _ rfl (hJ.put (by decide) (by decide) hb ⟨_, _, _, _, _, _, rfl, gis_any J7⟩)
              · obtain ⟨x, rfl⟩ := hJ.k
                have s153 : b.tmps.getD 153 undef = .bool true := (hS.i 153 (by decide)).trans (hJ.v 8 (by decide) (hwt ⟨8, .guard⟩ (by simp) rfl))
                obtain ⟨A6, n6, c6, B6, m6, d6, hs6, G6⟩ := hJ.v 10 (by decide) (hwt ⟨10, .data⟩ (by simp) rfl)
                have s155 : b.tmps.getD 155 undef = .agg #[.slice A6 n6 c6, .slice B6 m6 d6] := (hS.i 155 (by decide)).trans hs6
                clear hs6
                rw [if_pos (wanted_of rfl rfl s153)]
                go_simp
                refine (implReverseGraph_is x.W (c := c6) (d := d6) G6).mono ?_
                rintro e w'' ⟨A7, n7, c7, B7, m7, d7, rfl, J7, hb⟩
                go_simp
                exact HK.out 156 _ _ rfl (hJ.put (by decide) (by decide) hb ⟨_, _, _, _, _, _, rfl, gis_any J7⟩)
              · obtain ⟨x, rfl⟩ := hJ.k
                have s153 : b.tmps.getD 153 undef = .bool true := (hS.i 153 (by decide)).trans (hJ.v 8 (by decide) (hwt ⟨8, .guard⟩ (by simp) rfl))
                have s18 : b.tmps.getD 18 undef = .pointer (some ⟨bg18, 0, none⟩) := hS.o 18 (by decide)
                have u0 := kg180 x
                have u1 := kg181 x
                rw [if_pos (wanted_of rfl rfl s153)]
                go_simp
                exact HK.out 157 _ _ rfl (hJ.put (by decide) (by decide) (Below.refl _ _) rfl)
              · obtain ⟨x, rfl⟩ := hJ.k
                have s153 : b.tmps.getD 153 undef = .bool true := (hS.i 153 (by decide)).trans (hJ.v 8 (by decide) (hwt ⟨8, .guard⟩ (by simp) rfl))
                obtain ⟨A6, n6, c6, B6, m6, d6, hs6, G6⟩ := hJ.v 11 (by decide) (hwt ⟨11, .data⟩ (by simp) rfl)
                have s156 : b.tmps.getD 156 undef = .agg #[.slice A6 n6 c6, .slice B6 m6 d6] := (hS.i 156 (by decide)).trans hs6
                clear hs6
                have s157 : b.tmps.getD 157 undef = .agg #[.slice A8 n8 c8, .slice B8 m8 d8] := (hS.i 157 (by decide)).trans (hJ.v 12 (by decide) (hwt ⟨12, .data⟩ (by simp) rfl))
                rw [if_pos (wanted_of rfl rfl s153)]
                go_simp
                refine (eqG_rd x.W (c := c6) (d := d6) (c2 := c8) (d2 := d8) G6 (HG8.out x)).mono ?_
                rintro e w'' ⟨rfl, hb⟩
                rw [decide_eq_true (revG_two h8)]
                go_simp
                exact HK.out 158 _ _ rfl (hJ.put (by decide) (by decide) hb rfl)
              · obtain ⟨x, rfl⟩ := hJ.k
                have s153 : b.tmps.getD 153 undef = .bool true := (hS.i 153 (by decide)).trans (hJ.v 8 (by decide) (hwt ⟨8, .data⟩ (by simp) rfl))
                have s158 : b.tmps.getD 158 undef = .bool true := (hS.i 158 (by decide)).trans (hJ.v 13 (by decide) (hwt ⟨13, .data⟩ (by simp) rfl))
                go_simp
                exact HK.out 159 _ _ rfl (hJ.put (by decide) (by decide) (Below.refl _ _) rfl)
              · obtain ⟨x, rfl⟩ := hJ.k
                have s159 : b.tmps.getD 159 undef = .bool true := (hS.i 159 (by decide)).trans (hJ.v 14 (by decide) (hwt ⟨14, .data⟩ (by simp) rfl))
                go_simp
                exact HK.out 2 _ _ rfl (hJ.put (by decide) (by decide) (Below.refl _ _) rfl)
            case hend =>
              intro L f w' hall hJ
              have h2_ : f 2 = .bool true := hJ.v 15 (by decide) (hall 15 (by decide))
              obtain ⟨z9, rfl⟩ := hJ.k
              clear hall hJ
              have BF := below_then Bw23 z9.be
              simp only [chs, Act.put, List.setIfInBounds_toArray, List.set_cons_zero, List.set_cons_succ, h2_]
              go_wp2
              go_ret
              exact ⟨by simp, BF⟩
          · go_wp2_with fail
            rw [HWg23.out, HHg23.out, HY9.out]
            refine wp_region_sl [145, 146, 147, 148, 149, 150, 151, 152, 153, 154, 155, 156, 157, 158, 159, 2] (JR w23 [.bool true, .bool true, .bool true, .bool true, .agg #[.slice A21 n21 c21, .slice B21 m21 d21], .agg #[.slice A23 n23 c23, .slice B23 m23 d23], .bool true, .bool true, .bool true, .agg #[.slice A8 n8 c8, .slice B8 m8 d8], undef, undef, .agg #[.slice A8 n8 c8, .slice B8 m8 d8], .bool true, .bool true, .bool true] [none, none, none, none, none, none, none, none, none, none, some (revG h8), some (revG (revG h8)), none, none, none, none] [145, 146, 147, 148, 149, 150, 151, 152, 153, 154, 155, 156, 157, 158, 159, 2]) (by kernel_rfl) (by kernel_rfl) (by decide) (by intro d hd; simp at hd; simp; omega) (by kernel_rfl) ?h0 ?hstep ?hend
            case h0 => exact ⟨⟨⟨y9.W.drew, below_then y9.be ((Below.refl _ _).drew)⟩, rfl⟩, (fun k _ hk => absurd hk Bool.false_ne_true)⟩
            case hstep =>
              intro i L f w' o b K ho hLi hwt hcl hJ hS HK HN
              have hi : i < 16 := by simpa using (Array.getElem?_eq_some_iff.1 ho).1
              rcases (show i = 0 ∨ i = 1 ∨ i = 2 ∨ i = 3 ∨ i = 4 ∨ i = 5 ∨ i = 6 ∨ i = 7 ∨ i = 8 ∨ i = 9 ∨ i = 10 ∨ i = 11 ∨ i = 12 ∨ i = 13 ∨ i = 14 ∨ i = 15 by omega) with rfl | rfl | rfl | rfl | rfl | rfl | rfl | rfl | rfl | rfl | rfl | rfl | rfl | rfl | rfl | rfl
              all_goals
                simp only [List.getElem?_toArray, List.getElem?_cons_zero, List.getElem?_cons_succ, Option.some.injEq] at ho
                subst ho
                clear hi hcl
              · obtain ⟨x, rfl⟩ := hJ.k
                have s22 : b.tmps.getD 22 undef = .bool true := hS.o 22 (by decide)
                go_simp
                exact HK.out 145 _ _ rfl (hJ.put (by decide) (by decide) (Below.refl _ _) rfl)
              · obtain ⟨x, rfl⟩ := hJ.k
                have s24 : b.tmps.getD 24 undef = .bool true := hS.o 24 (by decide)
                go_simp
                exact HK.out 146 _ _ rfl (hJ.put (by decide) (by decide) (Below.refl _ _) rfl)
              · obtain ⟨x, rfl⟩ := hJ.k
                have s145 : b.tmps.getD 145 undef = .bool true := (hS.i 145 (by decide)).trans (hJ.v 0 (by decide) (hwt ⟨0, .data⟩ (by simp) rfl))
                have s146 : b.tmps.getD 146 undef = .bool true := (hS.i 146 (by decide)).trans (hJ.v 1 (by decide) (hwt ⟨1, .data⟩ (by simp) rfl))
                go_simp
                exact HK.out 147 _ _ rfl (hJ.put (by decide) (by decide) (Below.refl _ _) rfl)
              · obtain ⟨x, rfl⟩ := hJ.k
                have s147 : b.tmps.getD 147 undef = .bool true := (hS.i 147 (by decide)).trans (hJ.v 2 (by decide) (hwt ⟨2, .data⟩ (by simp) rfl))
                go_simp
                exact HK.out 148 _ _ rfl (hJ.put (by decide) (by decide) (Below.refl _ _) rfl)
              · obtain ⟨x, rfl⟩ := hJ.k
                have s148 : b.tmps.getD 148 undef = .bool true := (hS.i 148 (by decide)).trans (hJ.v 3 (by decide) (hwt ⟨3, .guard⟩ (by simp) rfl))
                have s21 : b.tmps.getD 21 undef = .pointer (some ⟨bg21, 0, none⟩) := hS.o 21 (by decide)
                have u0 := kg210 x
                have u1 := kg211 x
                rw [if_pos (wanted_of rfl rfl s148)]
                go_simp
                exact HK.out 149 _ _ rfl (hJ.put (by decide) (by decide) (Below.refl _ _) rfl)
              · obtain ⟨x, rfl⟩ := hJ.k
                have s148 : b.tmps.getD 148 undef = .bool true := (hS.i 148 (by decide)).trans (hJ.v 3 (by decide) (hwt ⟨3, .guard⟩ (by simp) rfl))
                have s23 : b.tmps.getD 23 undef = .pointer (some ⟨bg23, 0, none⟩) := hS.o 23 (by decide)
                have u0 := kg230 x
                have u1 := kg231 x
                rw [if_pos (wanted_of rfl rfl s148)]
                go_simp
                exact HK.out 150 _ _ rfl (hJ.put (by decide) (by decide) (Below.refl _ _) rfl)
              · obtain ⟨x, rfl⟩ := hJ.k
                have s148 : b.tmps.getD 148 undef = .bool true := (hS.i 148 (by decide)).trans (hJ.v 3 (by decide) (hwt ⟨3, .guard⟩ (by simp) rfl))
                have s149 : b.tmps.getD 149 undef = .agg #[.slice A21 n21 c21, .slice B21 m21 d21] := (hS.i 149 (by decide)).trans (hJ.v 4 (by decide) (hwt ⟨4, .data⟩ (by simp) rfl))
                have s150 : b.tmps.getD 150 undef = .agg #[.slice A23 n23 c23, .slice B23 m23 d23] := (hS.i 150 (by decide)).trans (hJ.v 5 (by decide) (hwt ⟨5, .data⟩ (by simp) rfl))
                rw [if_pos (wanted_of rfl rfl s148)]
                go_simp
                refine (eqG_rd x.W (c := c21) (d := d21) (c2 := c23) (d2 := d23) (HG21.out x) (HG23.out x)).mono ?_
                rintro e w'' ⟨rfl, hb⟩
                rw [decide_eq_true rfl]
                go_simp
                exact HK.out 151 _ _ rfl (hJ.put (by decide) (by decide) hb rfl)
              · obtain ⟨x, rfl⟩ := hJ.k
                have s148 : b.tmps.getD 148 undef = .bool true := (hS.i 148 (by decide)).trans (hJ.v 3 (by decide) (hwt ⟨3, .data⟩ (by simp) rfl))
                have s151 : b.tmps.getD 151 undef = .bool true := (hS.i 151 (by decide)).trans (hJ.v 6 (by decide) (hwt ⟨6, .data⟩ (by simp) rfl))
                go_simp
                exact HK.out 152 _ _ rfl (hJ.put (by decide) (by decide) (Below.refl _ _) rfl)
              · obtain ⟨x, rfl⟩ := hJ.k
                have s152 : b.tmps.getD 152 undef = .bool true := (hS.i 152 (by decide)).trans (hJ.v 7 (by decide) (hwt ⟨7, .data⟩ (by simp) rfl))
                go_simp
                exact HK.out 153 _ _ rfl (hJ.put (by decide) (by decide) (Below.refl _ _) rfl)
              · obtain ⟨x, rfl⟩ := hJ.k
                have s153 : b.tmps.getD 153 undef = .bool true := (hS.i 153 (by decide)).trans (hJ.v 8 (by decide) (hwt ⟨8, .guard⟩ (by simp) rfl))
                have s18 : b.tmps.getD 18 undef = .pointer (some ⟨bg18, 0, none⟩) := hS.o 18 (by decide)
                have u0 := kg180 x
                have u1 := kg181 x
                rw [if_pos (wanted_of rfl rfl s153)]
                go_simp
                exact HK.out 154 _ _ rfl (hJ.put (by decide) (by decide) (Below.refl _ _) rfl)
              · obtain ⟨x, rfl⟩ := hJ.k
                have s153 : b.tmps.getD 153 undef = .bool true := (hS.i 153 (by decide)).trans (hJ.v 8 (by decide) (hwt ⟨8, .guard⟩ (by simp) rfl))
                have s154 : b.tmps.getD 154 undef = .agg #[.slice A8 n8 c8, .slice B8 m8 d8] := (hS.i 154 (by decide)).trans (hJ.v 9 (by decide) (hwt ⟨9, .data⟩ (by simp) rfl))
                rw [if_pos (wanted_of rfl rfl s153)]
                go_simp
                refine (implReverseGraph_is x.W (c := c8) (d := d8) (HG8.out x)).mono ?_
                rintro e w'' ⟨A7, n7, c7, B7, m7, d7, rfl, J7, hb⟩
                go_simp
                exact HK.out 155 _ _ rfl (hJ.put (by decide) (by decide) hb ⟨_, _, _, _, _, _, rfl, gis_any J7⟩)
              · obtain ⟨x, rfl⟩ := hJ.k
                have s153 : b.tmps.getD 153 undef = .bool true := (hS.i 153 (by decide)).trans (hJ.v 8 (by decide) (hwt ⟨8, .guard⟩ (by simp) rfl))
                obtain ⟨A6, n6, c6, B6, m6, d6, hs6, G6⟩ := hJ.v 10 (by decide) (hwt ⟨10, .data⟩ (by simp) rfl)
                have s155 : b.tmps.getD 155 undef = .agg #[.slice A6 n6 c6, .slice B6 m6 d6] := (hS.i 155 (by decide)).trans hs6
                clear hs6
                rw [if_pos (wanted_of rfl rfl s153)]
                go_simp
                refine (implReverseGraph_is x.W (c := c6) (d := d6) G6).mono ?_
                rintro e w'' ⟨A7, n7, c7, B7, m7, d7, rfl, J7, hb⟩
                go_simp
                exact HK.out 156 _ _ rfl (hJ.put (by decide) (by decide) hb ⟨_, _, _, _, _, _, rfl, gis_any J7⟩)
              · obtain ⟨x, rfl⟩ := hJ.k
                have s153 : b.tmps.getD 153 undef = .bool true := (hS.i 153 (by decide)).trans (hJ.v 8 (by decide) (hwt ⟨8, .guard⟩ (by simp) rfl))
                have s18 : b.tmps.getD 18 undef = .pointer (some ⟨bg18, 0, none⟩) := hS.o 18 (by decide)
                have u0 := kg180 x
                have u1 := kg181 x
                rw [if_pos (wanted_of rfl rfl s153)]
                go_simp
                exact HK.out 157 _ _ rfl (hJ.put (by decide) (by decide) (Below.refl _ _) rfl)
              · obtain ⟨x, rfl⟩ := hJ.k
                have s153 : b.tmps.getD 153 undef = .bool true := (hS.i 153 (by decide)).trans (hJ.v 8 (by decide) (hwt ⟨8, .guard⟩ (by simp) rfl))
                obtain ⟨A6, n6, c6, B6, m6, d6, hs6, G6⟩ := hJ.v 11 (by decide) (hwt ⟨11, .data⟩ (by simp) rfl)
                have s156 : b.tmps.getD 156 undef = .agg #[.slice A6 n6 c6, .slice B6 m6 d6] := (hS.i 156 (by decide)).trans hs6
                clear hs6
                have s157 : b.tmps.getD 157 undef = .agg #[.slice A8 n8 c8, .slice B8 m8 d8] := (hS.i 157 (by decide)).trans (hJ.v 12 (by decide) (hwt ⟨12, .data⟩ (by simp) rfl))
                rw [if_pos (wanted_of rfl rfl s153)]
                go_simp
                refine (eqG_rd x.W (c := c6) (d := d6) (c2 := c8) (d2 := d8) G6 (HG8.out x)).mono ?_
                rintro e w'' ⟨rfl, hb⟩
                rw [decide_eq_true (revG_two h8)]
                go_simp
                exact HK.out 158 _ _ rfl (hJ.put (by decide) (by decide) hb rfl)
              · obtain ⟨x, rfl⟩ := hJ.k
                have s153 : b.tmps.getD 153 undef = .bool true := (hS.i 153 (by decide)).trans (hJ.v 8 (by decide) (hwt ⟨8, .data⟩ (by simp) rfl))
                have s158 : b.tmps.getD 158 undef = .bool true := (hS.i 158 (by decide)).trans (hJ.v 13 (by decide) (hwt ⟨13, .data⟩ (by simp) rfl))
                go_simp
                exact HK.out 159 _ _ rfl (hJ.put (by decide) (by decide) (Below.refl _ _) rfl)
              · obtain ⟨x, rfl⟩ := hJ.k
                have s159 : b.tmps.getD 159 undef = .bool true := (hS.i 159 (by decide)).trans (hJ.v 14 (by decide) (hwt ⟨14, .data⟩ (by simp) rfl))
                go_simp
                exact HK.out 2 _ _ rfl (hJ.put (by decide) (by decide) (Below.refl _ _) rfl)
            case hend =>
              intro L f w' hall hJ
              have h2_ : f 2 = .bool true := hJ.v 15 (by decide) (hall 15 (by decide))
              obtain ⟨z9, rfl⟩ := hJ.k
              clear hall hJ
              have BF := below_then Bw23 z9.be
              simp only [chs, Act.put, List.setIfInBounds_toArray, List.set_cons_zero, List.set_cons_succ, h2_]
              go_wp2
              go_ret
              exact ⟨by simp, BF⟩
    · obtain ⟨hvx, ⟨K, hK1, hK2⟩, hdel⟩ := HLAW.out rfl
      clear HLAW
      have x1 := fun w (h : GRd w A5 n5 B5 m5 gx) => implEdgeIx_rd w (c := c5) (d := d5) h x.id
      simp only [hK1] at x1
      have x2 := fun w (h : GRd w A5 n5 B5 m5 gx) => implDeleteEdge_is w (c := c5) (d := d5) h x.id
      simp only [hdel] at x2
      have x3 := fun w (h : GRd w A5 n5 B5 m5 gx) => implValid_rd w (c := c5) (d := d5) h
      simp only [hvx] at x3
      have Y1 := Lib.hid x1
      have Y2 := Lib.hid x2
      have Y3 := Lib.hid x3
      clear x1 x2 x3 hK1 hdel hvx
      have lg50 := Xg5.cell 0
      have lg51 := Xg5.cell 1
      have le40 := Xe4.cell 0
      have le41 := Xe4.cell 1
      have le42 := Xe4.cell 2
      have le43 := Xe4.cell 3
      go_wp2_with fail
      refine (Y1.out _ G5).mono ?_
      rintro e w9 ⟨rfl, hb⟩
      clear lg50 lg51 le40 le41 le42 le43
      have Bw9 := below_then Bw8 hb
      replace Xg3 := Xg3.below hb Xg3.lt
      replace Xe4 := Xe4.below hb Xe4.lt
      replace Xg5 := Xg5.below hb Xg5.lt
      replace G3 := G3.up hb
      replace G5 := G5.up hb
      clear hb
      clear Bw8
      have lg50 := Xg5.cell 0
      have lg51 := Xg5.cell 1
      have le40 := Xe4.cell 0
      have le41 := Xe4.cell 1
      have le42 := Xe4.cell 2
      have le43 := Xe4.cell 3
      go_wp2_with fail
      refine (Y2.out _ G5).mono ?_
      rintro e w10 ⟨A10, n10, c10, B10, m10, d10, rfl, J10, hb⟩
      clear lg50 lg51 le40 le41 le42 le43
      have Bw10 := below_then Bw9 hb
      replace Xg3 := Xg3.below hb Xg3.lt
      replace Xe4 := Xe4.below hb Xe4.lt
      replace Xg5 := Xg5.below hb Xg5.lt
      replace G3 := G3.up hb
      replace G5 := G5.up hb
      clear hb
      clear Bw9
      have G10 := gis_any J10
      clear J10
      have bA : Below w10.heap.size w10 (w10.alloc (.cells #[.slice A10 n10 c10, .slice B10 m10 d10] 27)) := (Below.refl _ _).alloc (Nat.le_refl _) _
      have Xg10 := Blk.new w10 27 #[.slice A10 n10 c10, .slice B10 m10 d10]
      have BN := below_then Bw10 bA
      replace Xg3 := Xg3.below bA Xg3.lt
      replace Xe4 := Xe4.below bA Xe4.lt
      replace Xg5 := Xg5.below bA Xg5.lt
      replace G3 := G3.up bA
      replace G5 := G5.up bA
      replace G10 := G10.up bA
      clear bA Bw10
      generalize hwg10 : w10.alloc (.cells #[.slice A10 n10 c10, .slice B10 m10 d10] 27) = w11 at *
      generalize hhg10 : w10.heap.size = bg10 at *
      have HWg10 := Lib.hid hwg10
      have HHg10 := Lib.hid hhg10
      clear hwg10 hhg10
      have Bw11 := BN
      clear BN
      have hKl : K < m5 := by have := (List.getElem?_eq_some_iff.1 hK2).1; have := G5.gr.lm; omega
      obtain ⟨eb, eo, rfl, _, x2, hx2, q0, q1, q2, q3⟩ := edge_at G5.gr.re G5.gr.lm hKl
      obtain rfl : x = x2 := by rw [hK2] at hx2; exact Option.some.inj hx2
      have hKm : (K : Int) < m5 := by omega
      have hK0 : (0 : Int) ≤ (K : Int) := by omega
      have hKn : ¬ (K : Int) < 0 := by omega
      have hKd : decide ((K : Int) < 0) = false := by simp
      obtain ⟨y11, hy11⟩ : ∃ y : Kept w11, w11 = y.W := ⟨⟨w11, Below.refl _ _⟩, rfl⟩
      have HY11 := Lib.hid hy11
      have kc0 := Kept.cell q0
      have kc1 := Kept.cell q1
      have kc2 := Kept.cell q2
      have kc3 := Kept.cell q3
      have k50 := Xg5.kc (v := .slice A5 n5 c5) 0 rfl
      have k51 := Xg5.kc (v := .slice (some ⟨eb, eo, none⟩) m5 d5) 1 rfl
      have k30 := Xg3.kc (v := .slice A n c) 0 rfl
      have k31 := Xg3.kc (v := .slice B m d) 1 rfl
      have k100 := Xg10.kc (v := .slice A10 n10 c10) 0 rfl
      have k101 := Xg10.kc (v := .slice B10 m10 d10) 1 rfl
      have k40 := Xe4.kc (v := .int .i64 x.id) 0 rfl
      have k41 := Xe4.kc (v := .int .i64 x.fr) 1 rfl
      have k42 := Xe4.kc (v := .int .i64 x.to) 2 rfl
      have k43 := Xe4.kc (v := .int .i64 x.lb) 3 rfl
      have HE1 : RowKit.Hid (∀ z : Kept w11, Calls Tryz.prog 10 #[.agg #[.slice A10 n10 c10, .slice B10 m10 d10], .agg #[.slice A n c, .slice B m d]] z.W fun e w' => e = .returned (.bool true) ∧ Below z.W.heap.size z.W w') := Lib.hid fun z => by
        have := eqG_rd z.W (c := c10) (d := d10) (c2 := c) (d2 := d) (G10.up z.be) (G3.up z.be)
        rwa [decide_eq_true rfl] at this
      have HE2 : RowKit.Hid (∀ z : Kept w11, Calls Tryz.prog 13 #[.agg #[.slice A5 n5 c5, .slice (some ⟨eb, eo, none⟩) m5 d5]] z.W fun e w' => e = .returned (.bool true) ∧ Below z.W.heap.size z.W w') := Lib.hid fun z => Y3.out z.W (G5.up z.be)
      have hEq : ∀ w, (binOp .neq 29 (.agg #[.int .i64 x.id, .int .i64 x.fr, .int .i64 x.to, .int .i64 x.lb]) (.agg #[.int .i64 x.id, .int .i64 x.fr, .int .i64 x.to, .int .i64 x.lb])).run Tryz.prog w = .ok (.bool false) w := fun w => by
        rw [neqE_run, decide_eq_true rfl]
        rfl
      clear q0 q1 q2 q3 hy11 hK2 Y1 Y2 Y3
      go_wp2_with fail
      rw [HWg10.out, HHg10.out, HY11.out]
      refine wp_region_k2 (by kernel_rfl) (by kernel_rfl) ?_
      repeat (go_big_quiet_step ((first | (go_at_call 10; exact Calls.kept (HE1.out _)) | (go_at_call 13; exact Calls.kept (HE2.out _)))))
      refine wpQuiet_nil ?_
      intro _ hw'
      obtain ⟨z12, rfl⟩ := hw'
      have bz := z12.be
      clear hEq HE1 HE2 kc0 kc1 kc2 kc3 k50 k51 k100 k101 k40 k41 k42 k43 k30 k31
      clear Xg5
      clear Xg10
      clear Xe4
      clear G5
      clear G10
      obtain ⟨wz, hwz⟩ : ∃ wz, z12.W = wz := ⟨_, rfl⟩
      rw [hwz] at bz ⊢
      clear hwz
      have Bwz := below_then Bw11 bz
      replace Xg3 := Xg3.below bz Xg3.lt
      replace G3 := G3.up bz
      clear bz
      clear Bw11
      obtain ⟨F, hF⟩ : ∃ F, fmtG g = F := ⟨_, rfl⟩
      obtain ⟨Z, hZ⟩ : ∃ Z : ByteArray, (⟨F.toArray⟩ : ByteArray) = Z := ⟨_, rfl⟩
      have hZe : Z.data.toList = fmtG g := by subst hZ; rw [hF]
      have hZs : Z.size ≤ 1048576 := by
        rw [Lib.size_eq, hZe]
        have := fmtG_len g
        omega
      have hgb := graph_back g
      obtain ⟨vb, hvb⟩ : ∃ vb, validG g = vb := ⟨_, rfl⟩
      obtain ⟨gz, hgz⟩ : ∃ gz, prsGr (fmtG g) = gz := ⟨_, rfl⟩
      rw [hvb, hgz] at hgb
      have f1 := fun w (h : GRd w A n B m g) TP => implFormatGraph_is w (c := c) (d := d) h TP
      simp only [hF, hZ] at f1
      have F1 := Lib.hid f1
      have p1 := fun w TP TE TM => implParseGraph_is w Z TP TE TM hZs
      simp only [hZe, hgb.1, hgz] at p1
      have P1 := Lib.hid p1
      have v1 := fun w (h : GRd w A n B m g) => specValid_rd w (c := c) (d := d) h
      simp only [hvb] at v1
      have V1 := Lib.hid v1
      have HGB := Lib.hid hgb.2
      clear f1 p1 v1 hF hZ hZe hZs hgb hvb hgz
      have lg30 := Xg3.cell 0
      have lg31 := Xg3.cell 1
      go_wp2_with fail
      refine (F1.out _ G3 (TP.up Bwz)).mono ?_
      rintro e w12 ⟨rfl, hb⟩
      clear lg30 lg31
      have Bw12 := below_then Bwz hb
      replace Xg3 := Xg3.below hb Xg3.lt
      replace G3 := G3.up hb
      clear hb
      clear Bwz
      go_wp2_with fail
      refine (P1.out _ (TP.up Bw12) (TE.up Bw12) (TM.up Bw12)).mono ?_
      rintro e w13 ⟨A13, n13, c13, B13, m13, d13, rfl, J13, hb⟩
      have Bw13 := below_then Bw12 hb
      replace Xg3 := Xg3.below hb Xg3.lt
      replace G3 := G3.up hb
      clear hb
      clear Bw12
      have G13 := gis_any J13
      clear J13
      have bA : Below w13.heap.size w13 (w13.alloc (.cells #[.slice A13 n13 c13, .slice B13 m13 d13] 27)) := (Below.refl _ _).alloc (Nat.le_refl _) _
      have Xg13 := Blk.new w13 27 #[.slice A13 n13 c13, .slice B13 m13 d13]
      have BN := below_then Bw13 bA
      replace Xg3 := Xg3.below bA Xg3.lt
      replace G3 := G3.up bA
      replace G13 := G13.up bA
      clear bA Bw13
      generalize hwg13 : w13.alloc (.cells #[.slice A13 n13 c13, .slice B13 m13 d13] 27) = w14 at *
      generalize hhg13 : w13.heap.size = bg13 at *
      have HWg13 := Lib.hid hwg13
      have HHg13 := Lib.hid hhg13
      clear hwg13 hhg13
      have Bw14 := BN
      clear BN
      have lg30 := Xg3.cell 0
      rw [← HWg13.out] at lg30
      have lg31 := Xg3.cell 1
      rw [← HWg13.out] at lg31
      go_wp2_with fail
      rw [HWg13.out, HHg13.out]
      refine (V1.out _ G3).mono ?_
      rintro e w15 ⟨rfl, hb⟩
      clear lg30 lg31
      have Bw15 := below_then Bw14 hb
      replace Xg3 := Xg3.below hb Xg3.lt
      replace Xg13 := Xg13.below hb Xg13.lt
      replace G3 := G3.up hb
      replace G13 := G13.up hb
      clear hb
      clear Bw14
      clear F1 P1 V1
      cases vb
      · clear Xg3 Xg13 G3 G13 HGB
        go_wp2_with fail
        refine (drawParseE_any w15 (R0.up Bw15)).mono ?_
        rintro e w16 ⟨T, rfl, hT, hb⟩
        have Bw16 := below_then Bw15 hb
        clear hb
        clear Bw15
        obtain ⟨y, hy⟩ : ∃ y, prsEN T.data.toList = y := ⟨_, rfl⟩
        obtain ⟨ok, hok⟩ : ∃ ok, prsEB T.data.toList = ok := ⟨_, rfl⟩
        have hbk : ok = true → fmtE y = T.data.toList := fun h => by rw [← hy]; exact edge_back (hok.trans h)
        have p1 := fun w TP TE TM => implParseEdge_any w TP TE TM T (by omega)
        simp only [hy, hok] at p1
        have P1 := Lib.hid p1
        have HBK := Lib.hid hbk
        clear p1 hy hok hbk
        go_wp2_with fail
        refine (P1.out _ (TP.up Bw16) (TE.up Bw16) (TM.up Bw16)).mono ?_
        rintro e w17 ⟨rfl, hb⟩
        have Bw17 := below_then Bw16 hb
        clear hb
        clear Bw16
        have bA : Below w17.heap.size w17 (w17.alloc (.cells #[.int .i64 y.id, .int .i64 y.fr, .int .i64 y.to, .int .i64 y.lb] 29)) := (Below.refl _ _).alloc (Nat.le_refl _) _
        have Xe16 := Blk.new w17 29 #[.int .i64 y.id, .int .i64 y.fr, .int .i64 y.to, .int .i64 y.lb]
        have BN := below_then Bw17 bA
        clear bA Bw17
        generalize hwe16 : w17.alloc (.cells #[.int .i64 y.id, .int .i64 y.fr, .int .i64 y.to, .int .i64 y.lb] 29) = w18 at *
        generalize hhe16 : w17.heap.size = be16 at *
        have HWe16 := Lib.hid hwe16
        have HHe16 := Lib.hid hhe16
        clear hwe16 hhe16
        have Bw18 := BN
        clear BN
        clear P1
        cases ok
        · clear Xe16 HBK
          go_wp2_with fail
          rw [HWe16.out, HHe16.out]
          refine (drawSet_any w18 (R0.up Bw18)).mono ?_
          rintro e w19 ⟨A8, n8, c8, B8, m8, d8, p8, q8, rfl, ⟨vs8, es8, G8⟩, _, _, hb⟩
          obtain ⟨h8, hh8⟩ : ∃ g : G, (⟨vs8, es8⟩ : G) = g := ⟨_, rfl⟩
          rw [hh8] at G8
          clear hh8
          have Bw19 := below_then Bw18 hb
          clear hb
          clear Bw18
          have bA : Below w19.heap.size w19 (w19.alloc (.cells #[.slice A8 n8 c8, .slice B8 m8 d8] 27)) := (Below.refl _ _).alloc (Nat.le_refl _) _
          have Xg18 := Blk.new w19 27 #[.slice A8 n8 c8, .slice B8 m8 d8]
          have BN := below_then Bw19 bA
          replace G8 := G8.up bA
          clear bA Bw19
          generalize hwg18 : w19.alloc (.cells #[.slice A8 n8 c8, .slice B8 m8 d8] 27) = w20 at *
          generalize hhg18 : w19.heap.size = bg18 at *
          have HWg18 := Lib.hid hwg18
          have HHg18 := Lib.hid hhg18
          clear hwg18 hhg18
          have Bw20 := BN
          clear BN
          obtain ⟨st, hst⟩ : ∃ st, (setG h8 p8 q8).2 = st := ⟨_, rfl⟩
          obtain ⟨gs, hgs⟩ : ∃ gs, (setG h8 p8 q8).1 = gs := ⟨_, rfl⟩
          have i1 := fun w (h : GRd w A8 n8 B8 m8 h8) => implSetValue_is w (c := c8) (d := d8) h p8 q8
          have i2 := fun w (h : GRd w A8 n8 B8 m8 h8) => specSetValue_is w (c := c8) (d := d8) h p8 q8
          simp only [hst, hgs] at i1 i2
          have I1 := Lib.hid i1
          have I2 := Lib.hid i2
          clear i1 i2 hst hgs
          have lg180 := Xg18.cell 0
          have lg181 := Xg18.cell 1
          go_wp2_with fail
          rw [HWg18.out, HHg18.out]
          refine (I1.out _ G8).mono ?_
          rintro e w21 ⟨A21, n21, c21, B21, m21, d21, rfl, J21, hb⟩
          clear lg180 lg181
          have Bw21 := below_then Bw20 hb
          replace Xg18 := Xg18.below hb Xg18.lt
          replace G8 := G8.up hb
          clear hb
          clear Bw20
          have G21 := gis_any J21
          clear J21
          have bA : Below w21.heap.size w21 (w21.alloc (.cells #[.slice A21 n21 c21, .slice B21 m21 d21] 27)) := (Below.refl _ _).alloc (Nat.le_refl _) _
          have Xg21 := Blk.new w21 27 #[.slice A21 n21 c21, .slice B21 m21 d21]
          have BN := below_then Bw21 bA
          replace Xg18 := Xg18.below bA Xg18.lt
          replace G8 := G8.up bA
          replace G21 := G21.up bA
          clear bA Bw21
          generalize hwg21 : w21.alloc (.cells #[.slice A21 n21 c21, .slice B21 m21 d21] 27) = w22 at *
          generalize hhg21 : w21.heap.size = bg21 at *
          have HWg21 := Lib.hid hwg21
          have HHg21 := Lib.hid hhg21
          clear hwg21 hhg21
          have Bw22 := BN
          clear BN
          have lg180 := Xg18.cell 0
          rw [← HWg21.out] at lg180
          have lg181 := Xg18.cell 1
          rw [← HWg21.out] at lg181
          go_wp2_with fail
          rw [HWg21.out, HHg21.out]
          refine (I2.out _ G8).mono ?_
          rintro e w23 ⟨A23, n23, c23, B23, m23, d23, rfl, J23, hb⟩
          clear lg180 lg181
          have Bw23 := below_then Bw22 hb
          replace Xg18 := Xg18.below hb Xg18.lt
          replace Xg21 := Xg21.below hb Xg21.lt
          replace G8 := G8.up hb
          replace G21 := G21.up hb
          clear hb
          clear Bw22
          have G23 := gis_any J23
          clear J23 I1 I2
          have bA : Below w23.heap.size w23 (w23.alloc (.cells #[.slice A23 n23 c23, .slice B23 m23 d23] 27)) := (Below.refl _ _).alloc (Nat.le_refl _) _
          have Xg23 := Blk.new w23 27 #[.slice A23 n23 c23, .slice B23 m23 d23]
          have BN := below_then Bw23 bA
          replace Xg18 := Xg18.below bA Xg18.lt
          replace Xg21 := Xg21.below bA Xg21.lt
          replace G8 := G8.up bA
          replace G21 := G21.up bA
          replace G23 := G23.up bA
          clear bA Bw23
          generalize hwg23 : w23.alloc (.cells #[.slice A23 n23 c23, .slice B23 m23 d23] 27) = w24 at *
          generalize hhg23 : w23.heap.size = bg23 at *
          have HWg23 := Lib.hid hwg23
          have HHg23 := Lib.hid hhg23
          clear hwg23 hhg23
          have Bw24 := BN
          clear BN
          obtain ⟨y9, hy9⟩ : ∃ y : Kept w24, w24 = y.W := ⟨⟨w24, Below.refl _ _⟩, rfl⟩
          have HY9 := Lib.hid hy9
          clear hy9
          have kg180 := Xg18.kc (v := .slice A8 n8 c8) 0 rfl
          have kg181 := Xg18.kc (v := .slice B8 m8 d8) 1 rfl
          have kg210 := Xg21.kc (v := .slice A21 n21 c21) 0 rfl
          have kg211 := Xg21.kc (v := .slice B21 m21 d21) 1 rfl
          have kg230 := Xg23.kc (v := .slice A23 n23 c23) 0 rfl
          have kg231 := Xg23.kc (v := .slice B23 m23 d23) 1 rfl
          have HG8 : RowKit.Hid (∀ x : Kept w24, GRd x.W A8 n8 B8 m8 h8) := Lib.hid fun x => G8.up x.be
          have HG21 : RowKit.Hid (∀ x : Kept w24, GRd x.W A21 n21 B21 m21 gs) := Lib.hid fun x => G21.up x.be
          have HG23 : RowKit.Hid (∀ x : Kept w24, GRd x.W A23 n23 B23 m23 gs) := Lib.hid fun x => G23.up x.be
          clear Xg18 Xg21 Xg23 G8 G21 G23
          cases st
          · go_wp2_with fail
            rw [HWg23.out, HHg23.out, HY9.out]
            refine wp_region_sl [145, 146, 147, 148, 149, 150, 151, 152, 153, 154, 155, 156, 157, 158, 159, 2] (JR w24 [.bool false, .bool false, .bool true, .bool true, .agg #[.slice A21 n21 c21, .slice B21 m21 d21], .agg #[.slice A23 n23 c23, .slice B23 m23 d23], .bool true, .bool true, .bool true, .agg #[.slice A8 n8 c8, .slice B8 m8 d8], undef, undef, .agg #[.slice A8 n8 c8, .slice B8 m8 d8], .bool true, .bool true, .bool true] [none, none, none, none, none, none, none, none, none, none, some (revG h8), some (revG (revG h8)), none, none, none, none] [145, 146, 147, 148, 149, 150, 151, 152, 153, 154, 155, 156, 157, 158, 159, 2]) (by kernel_rfl) (by kernel_rfl) (by decide) (by intro d hd; simp at hd; simp; omega) (by kernel_rfl) ?h0 ?hstep ?hend
            case h0 => exact ⟨⟨⟨y9.W.drew, below_then y9.be ((Below.refl _ _).drew)⟩, rfl⟩, (fun k _ hk => absurd hk Bool.false_ne_true)⟩
            case hstep =>
              intro i L f w' o b K ho hLi hwt hcl hJ hS HK HN
              have hi : i < 16 := by simpa using (Array.getElem?_eq_some_iff.1 ho).1
              rcases (show i = 0 ∨ i = 1 ∨ i = 2 ∨ i = 3 ∨ i = 4 ∨ i = 5 ∨ i = 6 ∨ i = 7 ∨ i = 8 ∨ i = 9 ∨ i = 10 ∨ i = 11 ∨ i = 12 ∨ i = 13 ∨ i = 14 ∨ i = 15 by omega) with rfl | rfl | rfl | rfl | rfl | rfl | rfl | rfl | rfl | rfl | rfl | rfl | rfl | rfl | rfl | rfl
              all_goals
                simp only [List.getElem?_toArray, List.getElem?_cons_zero, List.getElem?_cons_succ, Option.some.injEq] at ho
                subst ho
                clear hi hcl
              · obtain ⟨x, rfl⟩ := hJ.k
                have s22 : b.tmps.getD 22 undef = .bool false := hS.o 22 (by decide)
                go_simp
                exact HK.out 145 _ _ rfl (hJ.put (by decide) (by decide) (Below.refl _ _) rfl)
              · obtain ⟨x, rfl⟩ := hJ.k
                have s24 : b.tmps.getD 24 undef = .bool false := hS.o 24 (by decide)
                go_simp
                exact HK.out 146 _ _ rfl (hJ.put (by decide) (by decide) (Below.refl _ _) rfl)
              · obtain ⟨x, rfl⟩ := hJ.k
                have s145 : b.tmps.getD 145 undef = .bool false := (hS.i 145 (by decide)).trans (hJ.v 0 (by decide) (hwt ⟨0, .data⟩ (by simp) rfl))
                have s146 : b.tmps.getD 146 undef = .bool false := (hS.i 146 (by decide)).trans (hJ.v 1 (by decide) (hwt ⟨1, .data⟩ (by simp) rfl))
                go_simp
                exact HK.out 147 _ _ rfl (hJ.put (by decide) (by decide) (Below.refl _ _) rfl)
              · obtain ⟨x, rfl⟩ := hJ.k
                have s147 : b.tmps.getD 147 undef = .bool true := (hS.i 147 (by decide)).trans (hJ.v 2 (by decide) (hwt ⟨2, .data⟩ (by simp) rfl))
                go_simp
                exact HK.out 148 _ _ rfl (hJ.put (by decide) (by decide) (Below.refl _ _) rfl)
              · obtain ⟨x, rfl⟩ := hJ.k
                have s148 : b.tmps.getD 148 undef = .bool true := (hS.i 148 (by decide)).trans (hJ.v 3 (by decide) (hwt ⟨3, .guard⟩ (by simp) rfl))
                have s21 : b.tmps.getD 21 undef = .pointer (some ⟨bg21, 0, none⟩) := hS.o 21 (by decide)
                have u0 := kg210 x
                have u1 := kg211 x
                rw [if_pos (wanted_of rfl rfl s148)]
                go_simp
                exact HK.out 149 _ _ rfl (hJ.put (by decide) (by decide) (Below.refl _ _) rfl)
              · obtain ⟨x, rfl⟩ := hJ.k
                have s148 : b.tmps.getD 148 undef = .bool true := (hS.i 148 (by decide)).trans (hJ.v 3 (by decide) (hwt ⟨3, .guard⟩ (by simp) rfl))
                have s23 : b.tmps.getD 23 undef = .pointer (some ⟨bg23, 0, none⟩) := hS.o 23 (by decide)
                have u0 := kg230 x
                have u1 := kg231 x
                rw [if_pos (wanted_of rfl rfl s148)]
                go_simp
                exact HK.out 150 _ _ rfl (hJ.put (by decide) (by decide) (Below.refl _ _) rfl)
              · obtain ⟨x, rfl⟩ := hJ.k
                have s148 : b.tmps.getD 148 undef = .bool true := (hS.i 148 (by decide)).trans (hJ.v 3 (by decide) (hwt ⟨3, .guard⟩ (by simp) rfl))
                have s149 : b.tmps.getD 149 undef = .agg #[.slice A21 n21 c21, .slice B21 m21 d21] := (hS.i 149 (by decide)).trans (hJ.v 4 (by decide) (hwt ⟨4, .data⟩ (by simp) rfl))
                have s150 : b.tmps.getD 150 undef = .agg #[.slice A23 n23 c23, .slice B23 m23 d23] := (hS.i 150 (by decide)).trans (hJ.v 5 (by decide) (hwt ⟨5, .data⟩ (by simp) rfl))
                rw [if_pos (wanted_of rfl rfl s148)]
                go_simp
                refine (eqG_rd x.W (c := c21) (d := d21) (c2 := c23) (d2 := d23) (HG21.out x) (HG23.out x)).mono ?_
                rintro e w'' ⟨rfl, hb⟩
                rw [decide_eq_true rfl]
                go_simp
                exact HK.out 151 _ _ rfl (hJ.put (by decide) (by decide) hb rfl)
              · obtain ⟨x, rfl⟩ := hJ.k
                have s148 : b.tmps.getD 148 undef = .bool true := (hS.i 148 (by decide)).trans (hJ.v 3 (by decide) (hwt ⟨3, .data⟩ (by simp) rfl))
                have s151 : b.tmps.getD 151 undef = .bool true := (hS.i 151 (by decide)).trans (hJ.v 6 (by decide) (hwt ⟨6, .data⟩ (by simp) rfl))
                go_simp
                exact HK.out 152 _ _ rfl (hJ.put (by decide) (by decide) (Below.refl _ _) rfl)
              · obtain ⟨x, rfl⟩ := hJ.k
                have s152 : b.tmps.getD 152 undef = .bool true := (hS.i 152 (by decide)).trans (hJ.v 7 (by decide) (hwt ⟨7, .data⟩ (by simp) rfl))
                go_simp
                exact HK.out 153 _ _ rfl (hJ.put (by decide) (by decide) (Below.refl _ _) rfl)
              · obtain ⟨x, rfl⟩ := hJ.k
                have s153 : b.tmps.getD 153 undef = .bool true := (hS.i 153 (by decide)).trans (hJ.v 8 (by decide) (hwt ⟨8, .guard⟩ (by simp) rfl))
                have s18 : b.tmps.getD 18 undef = .pointer (some ⟨bg18, 0, none⟩) := hS.o 18 (by decide)
                have u0 := kg180 x
                have u1 := kg181 x
                rw [if_pos (wanted_of rfl rfl s153)]
                go_simp
                exact HK.out 154 _ _ rfl (hJ.put (by decide) (by decide) (Below.refl _ _) rfl)
              · obtain ⟨x, rfl⟩ := hJ.k
                have s153 : b.tmps.getD 153 undef = .bool true := (hS.i 153 (by decide)).trans (hJ.v 8 (by decide) (hwt ⟨8, .guard⟩ (by simp) rfl))
                have s154 : b.tmps.getD 154 undef = .agg #[.slice A8 n8 c8, .slice B8 m8 d8] := (hS.i 154 (by decide)).trans (hJ.v 9 (by decide) (hwt ⟨9, .data⟩ (by simp) rfl))
                rw [if_pos (wanted_of rfl rfl s153)]
                go_simp
                refine (implReverseGraph_is x.W (c := c8) (d := d8) (HG8.out x)).mono ?_
                rintro e w'' ⟨A7, n7, c7, B7, m7, d7, rfl, J7, hb⟩
                go_simp
                exact HK.out 155 _ _ rfl (hJ.put (by decide) (by decide) hb ⟨_, _, _, _, _, _, rfl, gis_any J7⟩)
              · obtain ⟨x, rfl⟩ := hJ.k
                have s153 : b.tmps.getD 153 undef = .bool true := (hS.i 153 (by decide)).trans (hJ.v 8 (by decide) (hwt ⟨8, .guard⟩ (by simp) rfl))
                obtain ⟨A6, n6, c6, B6, m6, d6, hs6, G6⟩ := hJ.v 10 (by decide) (hwt ⟨10, .data⟩ (by simp) rfl)
                have s155 : b.tmps.getD 155 undef = .agg #[.slice A6 n6 c6, .slice B6 m6 d6] := (hS.i 155 (by decide)).trans hs6
                clear hs6
                rw [if_pos (wanted_of rfl rfl s153)]
                go_simp
                refine (implReverseGraph_is x.W (c := c6) (d := d6) G6).mono ?_
                rintro e w'' ⟨A7, n7, c7, B7, m7, d7, rfl, J7, hb⟩
                go_simp
                exact HK.out 156 _ _ rfl (hJ.put (by decide) (by decide) hb ⟨_, _, _, _, _, _, rfl, gis_any J7⟩)
              · obtain ⟨x, rfl⟩ := hJ.k
                have s153 : b.tmps.getD 153 undef = .bool true := (hS.i 153 (by decide)).trans (hJ.v 8 (by decide) (hwt ⟨8, .guard⟩ (by simp) rfl))
                have s18 : b.tmps.getD 18 undef = .pointer (some ⟨bg18, 0, none⟩) := hS.o 18 (by decide)
                have u0 := kg180 x
                have u1 := kg181 x
                rw [if_pos (wanted_of rfl rfl s153)]
                go_simp
                exact HK.out 157 _ _ rfl (hJ.put (by decide) (by decide) (Below.refl _ _) rfl)
              · obtain ⟨x, rfl⟩ := hJ.k
                have s153 : b.tmps.getD 153 undef = .bool true := (hS.i 153 (by decide)).trans (hJ.v 8 (by decide) (hwt ⟨8, .guard⟩ (by simp) rfl))
                obtain ⟨A6, n6, c6, B6, m6, d6, hs6, G6⟩ := hJ.v 11 (by decide) (hwt ⟨11, .data⟩ (by simp) rfl)
                have s156 : b.tmps.getD 156 undef = .agg #[.slice A6 n6 c6, .slice B6 m6 d6] := (hS.i 156 (by decide)).trans hs6
                clear hs6
                have s157 : b.tmps.getD 157 undef = .agg #[.slice A8 n8 c8, .slice B8 m8 d8] := (hS.i 157 (by decide)).trans (hJ.v 12 (by decide) (hwt ⟨12, .data⟩ (by simp) rfl))
                rw [if_pos (wanted_of rfl rfl s153)]
                go_simp
                refine (eqG_rd x.W (c := c6) (d := d6) (c2 := c8) (d2 := d8) G6 (HG8.out x)).mono ?_
                rintro e w'' ⟨rfl, hb⟩
                rw [decide_eq_true (revG_two h8)]
                go_simp
                exact HK.out 158 _ _ rfl (hJ.put (by decide) (by decide) hb rfl)
              · obtain ⟨x, rfl⟩ := hJ.k
                have s153 : b.tmps.getD 153 undef = .bool true := (hS.i 153 (by decide)).trans (hJ.v 8 (by decide) (hwt ⟨8, .data⟩ (by simp) rfl))
                have s158 : b.tmps.getD 158 undef = .bool true := (hS.i 158 (by decide)).trans (hJ.v 13 (by decide) (hwt ⟨13, .data⟩ (by simp) rfl))
                go_simp
                exact HK.out 159 _ _ rfl (hJ.put (by decide) (by decide) (Below.refl _ _) rfl)
              · obtain ⟨x, rfl⟩ := hJ.k
                have s159 : b.tmps.getD 159 undef = .bool true := (hS.i 159 (by decide)).trans (hJ.v 14 (by decide) (hwt ⟨14, .data⟩ (by simp) rfl))
                go_simp
                exact HK.out 2 _ _ rfl (hJ.put (by decide) (by decide) (Below.refl _ _) rfl)
            case hend =>
              intro L f w' hall hJ
              have h2_ : f 2 = .bool true := hJ.v 15 (by decide) (hall 15 (by decide))
              obtain ⟨z9, rfl⟩ := hJ.k
              clear hall hJ
              have BF := below_then Bw24 z9.be
              simp only [chs, Act.put, List.setIfInBounds_toArray, List.set_cons_zero, List.set_cons_succ, h2_]
              go_wp2
              go_ret
              exact ⟨by simp, BF⟩
          · go_wp2_with fail
            rw [HWg23.out, HHg23.out, HY9.out]
            refine wp_region_sl [145, 146, 147, 148, 149, 150, 151, 152, 153, 154, 155, 156, 157, 158, 159, 2] (JR w24 [.bool true, .bool true, .bool true, .bool true, .agg #[.slice A21 n21 c21, .slice B21 m21 d21], .agg #[.slice A23 n23 c23, .slice B23 m23 d23], .bool true, .bool true, .bool true, .agg #[.slice A8 n8 c8, .slice B8 m8 d8], undef, undef, .agg #[.slice A8 n8 c8, .slice B8 m8 d8], .bool true, .bool true, .bool true] [none, none, none, none, none, none, none, none, none, none, some (revG h8), some (revG (revG h8)), none, none, none, none] [145, 146, 147, 148, 149, 150, 151, 152, 153, 154, 155, 156, 157, 158, 159, 2]) (by kernel_rfl) (by kernel_rfl) (by decide) (by intro d hd; simp at hd; simp; omega) (by kernel_rfl) ?h0 ?hstep ?hend
            case h0 => exact ⟨⟨⟨y9.W.drew, below_then y9.be ((Below.refl _ _).drew)⟩, rfl⟩, (fun k _ hk => absurd hk Bool.false_ne_true)⟩
            case hstep =>
              intro i L f w' o b K ho hLi hwt hcl hJ hS HK HN
              have hi : i < 16 := by simpa using (Array.getElem?_eq_some_iff.1 ho).1
              rcases (show i = 0 ∨ i = 1 ∨ i = 2 ∨ i = 3 ∨ i = 4 ∨ i = 5 ∨ i = 6 ∨ i = 7 ∨ i = 8 ∨ i = 9 ∨ i = 10 ∨ i = 11 ∨ i = 12 ∨ i = 13 ∨ i = 14 ∨ i = 15 by omega) with rfl | rfl | rfl | rfl | rfl | rfl | rfl | rfl | rfl | rfl | rfl | rfl | rfl | rfl | rfl | rfl
              all_goals
                simp only [List.getElem?_toArray, List.getElem?_cons_zero, List.getElem?_cons_succ, Option.some.injEq] at ho
                subst ho
                clear hi hcl
              · obtain ⟨x, rfl⟩ := hJ.k
                have s22 : b.tmps.getD 22 undef = .bool true := hS.o 22 (by decide)
                go_simp
                exact HK.out 145 _ _ rfl (hJ.put (by decide) (by decide) (Below.refl _ _) rfl)
              · obtain ⟨x, rfl⟩ := hJ.k
                have s24 : b.tmps.getD 24 undef = .bool true := hS.o 24 (by decide)
                go_simp
                exact HK.out 146 _ _ rfl (hJ.put (by decide) (by decide) (Below.refl _ _) rfl)
              · obtain ⟨x, rfl⟩ := hJ.k
                have s145 : b.tmps.getD 145 undef = .bool true := (hS.i 145 (by decide)).trans (hJ.v 0 (by decide) (hwt ⟨0, .data⟩ (by simp) rfl))
                have s146 : b.tmps.getD 146 undef = .bool true := (hS.i 146 (by decide)).trans (hJ.v 1 (by decide) (hwt ⟨1, .data⟩ (by simp) rfl))
                go_simp
                exact HK.out 147 _ _ rfl (hJ.put (by decide) (by decide) (Below.refl _ _) rfl)
              · obtain ⟨x, rfl⟩ := hJ.k
                have s147 : b.tmps.getD 147 undef = .bool true := (hS.i 147 (by decide)).trans (hJ.v 2 (by decide) (hwt ⟨2, .data⟩ (by simp) rfl))
                go_simp
                exact HK.out 148 _ _ rfl (hJ.put (by decide) (by decide) (Below.refl _ _) rfl)
              · obtain ⟨x, rfl⟩ := hJ.k
                have s148 : b.tmps.getD 148 undef = .bool true := (hS.i 148 (by decide)).trans (hJ.v 3 (by decide) (hwt ⟨3, .guard⟩ (by simp) rfl))
                have s21 : b.tmps.getD 21 undef = .pointer (some ⟨bg21, 0, none⟩) := hS.o 21 (by decide)
                have u0 := kg210 x
                have u1 := kg211 x
                rw [if_pos (wanted_of rfl rfl s148)]
                go_simp
                exact HK.out 149 _ _ rfl (hJ.put (by decide) (by decide) (Below.refl _ _) rfl)
              · obtain ⟨x, rfl⟩ := hJ.k
                have s148 : b.tmps.getD 148 undef = .bool true := (hS.i 148 (by decide)).trans (hJ.v 3 (by decide) (hwt ⟨3, .guard⟩ (by simp) rfl))
                have s23 : b.tmps.getD 23 undef = .pointer (some ⟨bg23, 0, none⟩) := hS.o 23 (by decide)
                have u0 := kg230 x
                have u1 := kg231 x
                rw [if_pos (wanted_of rfl rfl s148)]
                go_simp
                exact HK.out 150 _ _ rfl (hJ.put (by decide) (by decide) (Below.refl _ _) rfl)
              · obtain ⟨x, rfl⟩ := hJ.k
                have s148 : b.tmps.getD 148 undef = .bool true := (hS.i 148 (by decide)).trans (hJ.v 3 (by decide) (hwt ⟨3, .guard⟩ (by simp) rfl))
                have s149 : b.tmps.getD 149 undef = .agg #[.slice A21 n21 c21, .slice B21 m21 d21] := (hS.i 149 (by decide)).trans (hJ.v 4 (by decide) (hwt ⟨4, .data⟩ (by simp) rfl))
                have s150 : b.tmps.getD 150 undef = .agg #[.slice A23 n23 c23, .slice B23 m23 d23] := (hS.i 150 (by decide)).trans (hJ.v 5 (by decide) (hwt ⟨5, .data⟩ (by simp) rfl))
                rw [if_pos (wanted_of rfl rfl s148)]
                go_simp
                refine (eqG_rd x.W (c := c21) (d := d21) (c2 := c23) (d2 := d23) (HG21.out x) (HG23.out x)).mono ?_
                rintro e w'' ⟨rfl, hb⟩
                rw [decide_eq_true rfl]
                go_simp
                exact HK.out 151 _ _ rfl (hJ.put (by decide) (by decide) hb rfl)
              · obtain ⟨x, rfl⟩ := hJ.k
                have s148 : b.tmps.getD 148 undef = .bool true := (hS.i 148 (by decide)).trans (hJ.v 3 (by decide) (hwt ⟨3, .data⟩ (by simp) rfl))
                have s151 : b.tmps.getD 151 undef = .bool true := (hS.i 151 (by decide)).trans (hJ.v 6 (by decide) (hwt ⟨6, .data⟩ (by simp) rfl))
                go_simp
                exact HK.out 152 _ _ rfl (hJ.put (by decide) (by decide) (Below.refl _ _) rfl)
              · obtain ⟨x, rfl⟩ := hJ.k
                have s152 : b.tmps.getD 152 undef = .bool true := (hS.i 152 (by decide)).trans (hJ.v 7 (by decide) (hwt ⟨7, .data⟩ (by simp) rfl))
                go_simp
                exact HK.out 153 _ _ rfl (hJ.put (by decide) (by decide) (Below.refl _ _) rfl)
              · obtain ⟨x, rfl⟩ := hJ.k
                have s153 : b.tmps.getD 153 undef = .bool true := (hS.i 153 (by decide)).trans (hJ.v 8 (by decide) (hwt ⟨8, .guard⟩ (by simp) rfl))
                have s18 : b.tmps.getD 18 undef = .pointer (some ⟨bg18, 0, none⟩) := hS.o 18 (by decide)
                have u0 := kg180 x
                have u1 := kg181 x
                rw [if_pos (wanted_of rfl rfl s153)]
                go_simp
                exact HK.out 154 _ _ rfl (hJ.put (by decide) (by decide) (Below.refl _ _) rfl)
              · obtain ⟨x, rfl⟩ := hJ.k
                have s153 : b.tmps.getD 153 undef = .bool true := (hS.i 153 (by decide)).trans (hJ.v 8 (by decide) (hwt ⟨8, .guard⟩ (by simp) rfl))
                have s154 : b.tmps.getD 154 undef = .agg #[.slice A8 n8 c8, .slice B8 m8 d8] := (hS.i 154 (by decide)).trans (hJ.v 9 (by decide) (hwt ⟨9, .data⟩ (by simp) rfl))
                rw [if_pos (wanted_of rfl rfl s153)]
                go_simp
                refine (implReverseGraph_is x.W (c := c8) (d := d8) (HG8.out x)).mono ?_
                rintro e w'' ⟨A7, n7, c7, B7, m7, d7, rfl, J7, hb⟩
                go_simp
                exact HK.out 155 _ _ rfl (hJ.put (by decide) (by decide) hb ⟨_, _, _, _, _, _, rfl, gis_any J7⟩)
              · obtain ⟨x, rfl⟩ := hJ.k
                have s153 : b.tmps.getD 153 undef = .bool true := (hS.i 153 (by decide)).trans (hJ.v 8 (by decide) (hwt ⟨8, .guard⟩ (by simp) rfl))
                obtain ⟨A6, n6, c6, B6, m6, d6, hs6, G6⟩ := hJ.v 10 (by decide) (hwt ⟨10, .data⟩ (by simp) rfl)
                have s155 : b.tmps.getD 155 undef = .agg #[.slice A6 n6 c6, .slice B6 m6 d6] := (hS.i 155 (by decide)).trans hs6
                clear hs6
                rw [if_pos (wanted_of rfl rfl s153)]
                go_simp
                refine (implReverseGraph_is x.W (c := c6) (d := d6) G6).mono ?_
                rintro e w'' ⟨A7, n7, c7, B7, m7, d7, rfl, J7, hb⟩
                go_simp
                exact HK.out 156 _ _ rfl (hJ.put (by decide) (by decide) hb ⟨_, _, _, _, _, _, rfl, gis_any J7⟩)
              · obtain ⟨x, rfl⟩ := hJ.k
                have s153 : b.tmps.getD 153 undef = .bool true := (hS.i 153 (by decide)).trans (hJ.v 8 (by decide) (hwt ⟨8, .guard⟩ (by simp) rfl))
                have s18 : b.tmps.getD 18 undef = .pointer (some ⟨bg18, 0, none⟩) := hS.o 18 (by decide)
                have u0 := kg180 x
                have u1 := kg181 x
                rw [if_pos (wanted_of rfl rfl s153)]
                go_simp
                exact HK.out 157 _ _ rfl (hJ.put (by decide) (by decide) (Below.refl _ _) rfl)
              · obtain ⟨x, rfl⟩ := hJ.k
                have s153 : b.tmps.getD 153 undef = .bool true := (hS.i 153 (by decide)).trans (hJ.v 8 (by decide) (hwt ⟨8, .guard⟩ (by simp) rfl))
                obtain ⟨A6, n6, c6, B6, m6, d6, hs6, G6⟩ := hJ.v 11 (by decide) (hwt ⟨11, .data⟩ (by simp) rfl)
                have s156 : b.tmps.getD 156 undef = .agg #[.slice A6 n6 c6, .slice B6 m6 d6] := (hS.i 156 (by decide)).trans hs6
                clear hs6
                have s157 : b.tmps.getD 157 undef = .agg #[.slice A8 n8 c8, .slice B8 m8 d8] := (hS.i 157 (by decide)).trans (hJ.v 12 (by decide) (hwt ⟨12, .data⟩ (by simp) rfl))
                rw [if_pos (wanted_of rfl rfl s153)]
                go_simp
                refine (eqG_rd x.W (c := c6) (d := d6) (c2 := c8) (d2 := d8) G6 (HG8.out x)).mono ?_
                rintro e w'' ⟨rfl, hb⟩
                rw [decide_eq_true (revG_two h8)]
                go_simp
                exact HK.out 158 _ _ rfl (hJ.put (by decide) (by decide) hb rfl)
              · obtain ⟨x, rfl⟩ := hJ.k
                have s153 : b.tmps.getD 153 undef = .bool true := (hS.i 153 (by decide)).trans (hJ.v 8 (by decide) (hwt ⟨8, .data⟩ (by simp) rfl))
                have s158 : b.tmps.getD 158 undef = .bool true := (hS.i 158 (by decide)).trans (hJ.v 13 (by decide) (hwt ⟨13, .data⟩ (by simp) rfl))
                go_simp
                exact HK.out 159 _ _ rfl (hJ.put (by decide) (by decide) (Below.refl _ _) rfl)
              · obtain ⟨x, rfl⟩ := hJ.k
                have s159 : b.tmps.getD 159 undef = .bool true := (hS.i 159 (by decide)).trans (hJ.v 14 (by decide) (hwt ⟨14, .data⟩ (by simp) rfl))
                go_simp
                exact HK.out 2 _ _ rfl (hJ.put (by decide) (by decide) (Below.refl _ _) rfl)
            case hend =>
              intro L f w' hall hJ
              have h2_ : f 2 = .bool true := hJ.v 15 (by decide) (hall 15 (by decide))
              obtain ⟨z9, rfl⟩ := hJ.k
              clear hall hJ
              have BF := below_then Bw24 z9.be
              simp only [chs, Act.put, List.setIfInBounds_toArray, List.set_cons_zero, List.set_cons_succ, h2_]
              go_wp2
              go_ret
              exact ⟨by simp, BF⟩
        · have hfe := implFormatEdge_any w18 (TP.up Bw18) y
          rw [HBK.out rfl, show (⟨T.data.toList.toArray⟩ : ByteArray) = T from rfl] at hfe
          have HFE := Lib.hid hfe
          clear hfe
          have le160 := Xe16.cell 0
          have le161 := Xe16.cell 1
          have le162 := Xe16.cell 2
          have le163 := Xe16.cell 3
          go_wp2_with fail
          rw [HWe16.out, HHe16.out]
          refine (HFE.out).mono ?_
          rintro e w19 ⟨rfl, hb⟩
          clear le160 le161 le162 le163
          clear HFE
          have Bw19 := below_then Bw18 hb
          replace Xe16 := Xe16.below hb Xe16.lt
          clear hb
          clear Bw18
          clear Xe16 HBK
          go_wp2_with fail
          refine (drawSet_any w19 (R0.up Bw19)).mono ?_
          rintro e w20 ⟨A8, n8, c8, B8, m8, d8, p8, q8, rfl, ⟨vs8, es8, G8⟩, _, _, hb⟩
          obtain ⟨h8, hh8⟩ : ∃ g : G, (⟨vs8, es8⟩ : G) = g := ⟨_, rfl⟩
          rw [hh8] at G8
          clear hh8
          have Bw20 := below_then Bw19 hb
          clear hb
          clear Bw19
          have bA : Below w20.heap.size w20 (w20.alloc (.cells #[.slice A8 n8 c8, .slice B8 m8 d8] 27)) := (Below.refl _ _).alloc (Nat.le_refl _) _
          have Xg18 := Blk.new w20 27 #[.slice A8 n8 c8, .slice B8 m8 d8]
          have BN := below_then Bw20 bA
          replace G8 := G8.up bA
          clear bA Bw20
          generalize hwg18 : w20.alloc (.cells #[.slice A8 n8 c8, .slice B8 m8 d8] 27) = w21 at *
          generalize hhg18 : w20.heap.size = bg18 at *
          have HWg18 := Lib.hid hwg18
          have HHg18 := Lib.hid hhg18
          clear hwg18 hhg18
          have Bw21 := BN
          clear BN
          obtain ⟨st, hst⟩ : ∃ st, (setG h8 p8 q8).2 = st := ⟨_, rfl⟩
          obtain ⟨gs, hgs⟩ : ∃ gs, (setG h8 p8 q8).1 = gs := ⟨_, rfl⟩
          have i1 := fun w (h : GRd w A8 n8 B8 m8 h8) => implSetValue_is w (c := c8) (d := d8) h p8 q8
          have i2 := fun w (h : GRd w A8 n8 B8 m8 h8) => specSetValue_is w (c := c8) (d := d8) h p8 q8
          simp only [hst, hgs] at i1 i2
          have I1 := Lib.hid i1
          have I2 := Lib.hid i2
          clear i1 i2 hst hgs
          have lg180 := Xg18.cell 0
          have lg181 := Xg18.cell 1
          go_wp2_with fail
          rw [HWg18.out, HHg18.out]
          refine (I1.out _ G8).mono ?_
          rintro e w22 ⟨A21, n21, c21, B21, m21, d21, rfl, J21, hb⟩
          clear lg180 lg181
          have Bw22 := below_then Bw21 hb
          replace Xg18 := Xg18.below hb Xg18.lt
          replace G8 := G8.up hb
          clear hb
          clear Bw21
          have G21 := gis_any J21
          clear J21
          have bA : Below w22.heap.size w22 (w22.alloc (.cells #[.slice A21 n21 c21, .slice B21 m21 d21] 27)) := (Below.refl _ _).alloc (Nat.le_refl _) _
          have Xg21 := Blk.new w22 27 #[.slice A21 n21 c21, .slice B21 m21 d21]
          have BN := below_then Bw22 bA
          replace Xg18 := Xg18.below bA Xg18.lt
          replace G8 := G8.up bA
          replace G21 := G21.up bA
          clear bA Bw22
          generalize hwg21 : w22.alloc (.cells #[.slice A21 n21 c21, .slice B21 m21 d21] 27) = w23 at *
          generalize hhg21 : w22.heap.size = bg21 at *
          have HWg21 := Lib.hid hwg21
          have HHg21 := Lib.hid hhg21
          clear hwg21 hhg21
          have Bw23 := BN
          clear BN
          have lg180 := Xg18.cell 0
          rw [← HWg21.out] at lg180
          have lg181 := Xg18.cell 1
          rw [← HWg21.out] at lg181
          go_wp2_with fail
          rw [HWg21.out, HHg21.out]
          refine (I2.out _ G8).mono ?_
          rintro e w24 ⟨A23, n23, c23, B23, m23, d23, rfl, J23, hb⟩
          clear lg180 lg181
          have Bw24 := below_then Bw23 hb
          replace Xg18 := Xg18.below hb Xg18.lt
          replace Xg21 := Xg21.below hb Xg21.lt
          replace G8 := G8.up hb
          replace G21 := G21.up hb
          clear hb
          clear Bw23
          have G23 := gis_any J23
          clear J23 I1 I2
          have bA : Below w24.heap.size w24 (w24.alloc (.cells #[.slice A23 n23 c23, .slice B23 m23 d23] 27)) := (Below.refl _ _).alloc (Nat.le_refl _) _
          have Xg23 := Blk.new w24 27 #[.slice A23 n23 c23, .slice B23 m23 d23]
          have BN := below_then Bw24 bA
          replace Xg18 := Xg18.below bA Xg18.lt
          replace Xg21 := Xg21.below bA Xg21.lt
          replace G8 := G8.up bA
          replace G21 := G21.up bA
          replace G23 := G23.up bA
          clear bA Bw24
          generalize hwg23 : w24.alloc (.cells #[.slice A23 n23 c23, .slice B23 m23 d23] 27) = w25 at *
          generalize hhg23 : w24.heap.size = bg23 at *
          have HWg23 := Lib.hid hwg23
          have HHg23 := Lib.hid hhg23
          clear hwg23 hhg23
          have Bw25 := BN
          clear BN
          obtain ⟨y9, hy9⟩ : ∃ y : Kept w25, w25 = y.W := ⟨⟨w25, Below.refl _ _⟩, rfl⟩
          have HY9 := Lib.hid hy9
          clear hy9
          have kg180 := Xg18.kc (v := .slice A8 n8 c8) 0 rfl
          have kg181 := Xg18.kc (v := .slice B8 m8 d8) 1 rfl
          have kg210 := Xg21.kc (v := .slice A21 n21 c21) 0 rfl
          have kg211 := Xg21.kc (v := .slice B21 m21 d21) 1 rfl
          have kg230 := Xg23.kc (v := .slice A23 n23 c23) 0 rfl
          have kg231 := Xg23.kc (v := .slice B23 m23 d23) 1 rfl
          have HG8 : RowKit.Hid (∀ x : Kept w25, GRd x.W A8 n8 B8 m8 h8) := Lib.hid fun x => G8.up x.be
          have HG21 : RowKit.Hid (∀ x : Kept w25, GRd x.W A21 n21 B21 m21 gs) := Lib.hid fun x => G21.up x.be
          have HG23 : RowKit.Hid (∀ x : Kept w25, GRd x.W A23 n23 B23 m23 gs) := Lib.hid fun x => G23.up x.be
          clear Xg18 Xg21 Xg23 G8 G21 G23
          cases st
          · go_wp2_with fail
            rw [HWg23.out, HHg23.out, HY9.out]
            refine wp_region_sl [145, 146, 147, 148, 149, 150, 151, 152, 153, 154, 155, 156, 157, 158, 159, 2] (JR w25 [.bool false, .bool false, .bool true, .bool true, .agg #[.slice A21 n21 c21, .slice B21 m21 d21], .agg #[.slice A23 n23 c23, .slice B23 m23 d23], .bool true, .bool true, .bool true, .agg #[.slice A8 n8 c8, .slice B8 m8 d8], undef, undef, .agg #[.slice A8 n8 c8, .slice B8 m8 d8], .bool true, .bool true, .bool true] [none, none, none, none, none, none, none, none, none, none, some (revG h8), some (revG (revG h8)), none, none, none, none] [145, 146, 147, 148, 149, 150, 151, 152, 153, 154, 155, 156, 157, 158, 159, 2]) (by kernel_rfl) (by kernel_rfl) (by decide) (by intro d hd; simp at hd; simp; omega) (by kernel_rfl) ?h0 ?hstep ?hend
            case h0 => exact ⟨⟨⟨y9.W.drew, below_then y9.be ((Below.refl _ _).drew)⟩, rfl⟩, (fun k _ hk => absurd hk Bool.false_ne_true)⟩
            case hstep =>
              intro i L f w' o b K ho hLi hwt hcl hJ hS HK HN
              have hi : i < 16 := by simpa using (Array.getElem?_eq_some_iff.1 ho).1
              rcases (show i = 0 ∨ i = 1 ∨ i = 2 ∨ i = 3 ∨ i = 4 ∨ i = 5 ∨ i = 6 ∨ i = 7 ∨ i = 8 ∨ i = 9 ∨ i = 10 ∨ i = 11 ∨ i = 12 ∨ i = 13 ∨ i = 14 ∨ i = 15 by omega) with rfl | rfl | rfl | rfl | rfl | rfl | rfl | rfl | rfl | rfl | rfl | rfl | rfl | rfl | rfl | rfl
              all_goals
                simp only [List.getElem?_toArray, List.getElem?_cons_zero, List.getElem?_cons_succ, Option.some.injEq] at ho
                subst ho
                clear hi hcl
              · obtain ⟨x, rfl⟩ := hJ.k
                have s22 : b.tmps.getD 22 undef = .bool false := hS.o 22 (by decide)
                go_simp
                exact HK.out 145 _ _ rfl (hJ.put (by decide) (by decide) (Below.refl _ _) rfl)
              · obtain ⟨x, rfl⟩ := hJ.k
                have s24 : b.tmps.getD 24 undef = .bool false := hS.o 24 (by decide)
                go_simp
                exact HK.out 146 _ _ rfl (hJ.put (by decide) (by decide) (Below.refl _ _) rfl)
              · obtain ⟨x, rfl⟩ := hJ.k
                have s145 : b.tmps.getD 145 undef = .bool false := (hS.i 145 (by decide)).trans (hJ.v 0 (by decide) (hwt ⟨0, .data⟩ (by simp) rfl))
                have s146 : b.tmps.getD 146 undef = .bool false := (hS.i 146 (by decide)).trans (hJ.v 1 (by decide) (hwt ⟨1, .data⟩ (by simp) rfl))
                go_simp
                exact HK.out 147 _ _ rfl (hJ.put (by decide) (by decide) (Below.refl _ _) rfl)
              · obtain ⟨x, rfl⟩ := hJ.k
                have s147 : b.tmps.getD 147 undef = .bool true := (hS.i 147 (by decide)).trans (hJ.v 2 (by decide) (hwt ⟨2, .data⟩ (by simp) rfl))
                go_simp
                exact HK.out 148 _ _ rfl (hJ.put (by decide) (by decide) (Below.refl _ _) rfl)
              · obtain ⟨x, rfl⟩ := hJ.k
                have s148 : b.tmps.getD 148 undef = .bool true := (hS.i 148 (by decide)).trans (hJ.v 3 (by decide) (hwt ⟨3, .guard⟩ (by simp) rfl))
                have s21 : b.tmps.getD 21 undef = .pointer (some ⟨bg21, 0, none⟩) := hS.o 21 (by decide)
                have u0 := kg210 x
                have u1 := kg211 x
                rw [if_pos (wanted_of rfl rfl s148)]
                go_simp
                exact HK.out 149 _ _ rfl (hJ.put (by decide) (by decide) (Below.refl _ _) rfl)
              · obtain ⟨x, rfl⟩ := hJ.k
                have s148 : b.tmps.getD 148 undef = .bool true := (hS.i 148 (by decide)).trans (hJ.v 3 (by decide) (hwt ⟨3, .guard⟩ (by simp) rfl))
                have s23 : b.tmps.getD 23 undef = .pointer (some ⟨bg23, 0, none⟩) := hS.o 23 (by decide)
                have u0 := kg230 x
                have u1 := kg231 x
                rw [if_pos (wanted_of rfl rfl s148)]
                go_simp
                exact HK.out 150 _ _ rfl (hJ.put (by decide) (by decide) (Below.refl _ _) rfl)
              · obtain ⟨x, rfl⟩ := hJ.k
                have s148 : b.tmps.getD 148 undef = .bool true := (hS.i 148 (by decide)).trans (hJ.v 3 (by decide) (hwt ⟨3, .guard⟩ (by simp) rfl))
                have s149 : b.tmps.getD 149 undef = .agg #[.slice A21 n21 c21, .slice B21 m21 d21] := (hS.i 149 (by decide)).trans (hJ.v 4 (by decide) (hwt ⟨4, .data⟩ (by simp) rfl))
                have s150 : b.tmps.getD 150 undef = .agg #[.slice A23 n23 c23, .slice B23 m23 d23] := (hS.i 150 (by decide)).trans (hJ.v 5 (by decide) (hwt ⟨5, .data⟩ (by simp) rfl))
                rw [if_pos (wanted_of rfl rfl s148)]
                go_simp
                refine (eqG_rd x.W (c := c21) (d := d21) (c2 := c23) (d2 := d23) (HG21.out x) (HG23.out x)).mono ?_
                rintro e w'' ⟨rfl, hb⟩
                rw [decide_eq_true rfl]
                go_simp
                exact HK.out 151 _ _ rfl (hJ.put (by decide) (by decide) hb rfl)
              · obtain ⟨x, rfl⟩ := hJ.k
                have s148 : b.tmps.getD 148 undef = .bool true := (hS.i 148 (by decide)).trans (hJ.v 3 (by decide) (hwt ⟨3, .data⟩ (by simp) rfl))
                have s151 : b.tmps.getD 151 undef = .bool true := (hS.i 151 (by decide)).trans (hJ.v 6 (by decide) (hwt ⟨6, .data⟩ (by simp) rfl))
                go_simp
                exact HK.out 152 _ _ rfl (hJ.put (by decide) (by decide) (Below.refl _ _) rfl)
              · obtain ⟨x, rfl⟩ := hJ.k
                have s152 : b.tmps.getD 152 undef = .bool true := (hS.i 152 (by decide)).trans (hJ.v 7 (by decide) (hwt ⟨7, .data⟩ (by simp) rfl))
                go_simp
                exact HK.out 153 _ _ rfl (hJ.put (by decide) (by decide) (Below.refl _ _) rfl)
              · obtain ⟨x, rfl⟩ := hJ.k
                have s153 : b.tmps.getD 153 undef = .bool true := (hS.i 153 (by decide)).trans (hJ.v 8 (by decide) (hwt ⟨8, .guard⟩ (by simp) rfl))
                have s18 : b.tmps.getD 18 undef = .pointer (some ⟨bg18, 0, none⟩) := hS.o 18 (by decide)
                have u0 := kg180 x
                have u1 := kg181 x
                rw [if_pos (wanted_of rfl rfl s153)]
                go_simp
                exact HK.out 154 _ _ rfl (hJ.put (by decide) (by decide) (Below.refl _ _) rfl)
              · obtain ⟨x, rfl⟩ := hJ.k
                have s153 : b.tmps.getD 153 undef = .bool true := (hS.i 153 (by decide)).trans (hJ.v 8 (by decide) (hwt ⟨8, .guard⟩ (by simp) rfl))
                have s154 : b.tmps.getD 154 undef = .agg #[.slice A8 n8 c8, .slice B8 m8 d8] := (hS.i 154 (by decide)).trans (hJ.v 9 (by decide) (hwt ⟨9, .data⟩ (by simp) rfl))
                rw [if_pos (wanted_of rfl rfl s153)]
                go_simp
                refine (implReverseGraph_is x.W (c := c8) (d := d8) (HG8.out x)).mono ?_
                rintro e w'' ⟨A7, n7, c7, B7, m7, d7, rfl, J7, hb⟩
                go_simp
                exact HK.out 155 _ _ rfl (hJ.put (by decide) (by decide) hb ⟨_, _, _, _, _, _, rfl, gis_any J7⟩)
              · obtain ⟨x, rfl⟩ := hJ.k
                have s153 : b.tmps.getD 153 undef = .bool true := (hS.i 153 (by decide)).trans (hJ.v 8 (by decide) (hwt ⟨8, .guard⟩ (by simp) rfl))
                obtain ⟨A6, n6, c6, B6, m6, d6, hs6, G6⟩ := hJ.v 10 (by decide) (hwt ⟨10, .data⟩ (by simp) rfl)
                have s155 : b.tmps.getD 155 undef = .agg #[.slice A6 n6 c6, .slice B6 m6 d6] := (hS.i 155 (by decide)).trans hs6
                clear hs6
                rw [if_pos (wanted_of rfl rfl s153)]
                go_simp
                refine (implReverseGraph_is x.W (c := c6) (d := d6) G6).mono ?_
                rintro e w'' ⟨A7, n7, c7, B7, m7, d7, rfl, J7, hb⟩
                go_simp
                exact HK.out 156 _ _ rfl (hJ.put (by decide) (by decide) hb ⟨_, _, _, _, _, _, rfl, gis_any J7⟩)
              · obtain ⟨x, rfl⟩ := hJ.k
                have s153 : b.tmps.getD 153 undef = .bool true := (hS.i 153 (by decide)).trans (hJ.v 8 (by decide) (hwt ⟨8, .guard⟩ (by simp) rfl))
                have s18 : b.tmps.getD 18 undef = .pointer (some ⟨bg18, 0, none⟩) := hS.o 18 (by decide)
                have u0 := kg180 x
                have u1 := kg181 x
                rw [if_pos (wanted_of rfl rfl s153)]
                go_simp
                exact HK.out 157 _ _ rfl (hJ.put (by decide) (by decide) (Below.refl _ _) rfl)
              · obtain ⟨x, rfl⟩ := hJ.k
                have s153 : b.tmps.getD 153 undef = .bool true := (hS.i 153 (by decide)).trans (hJ.v 8 (by decide) (hwt ⟨8, .guard⟩ (by simp) rfl))
                obtain ⟨A6, n6, c6, B6, m6, d6, hs6, G6⟩ := hJ.v 11 (by decide) (hwt ⟨11, .data⟩ (by simp) rfl)
                have s156 : b.tmps.getD 156 undef = .agg #[.slice A6 n6 c6, .slice B6 m6 d6] := (hS.i 156 (by decide)).trans hs6
                clear hs6
                have s157 : b.tmps.getD 157 undef = .agg #[.slice A8 n8 c8, .slice B8 m8 d8] := (hS.i 157 (by decide)).trans (hJ.v 12 (by decide) (hwt ⟨12, .data⟩ (by simp) rfl))
                rw [if_pos (wanted_of rfl rfl s153)]
                go_simp
                refine (eqG_rd x.W (c := c6) (d := d6) (c2 := c8) (d2 := d8) G6 (HG8.out x)).mono ?_
                rintro e w'' ⟨rfl, hb⟩
                rw [decide_eq_true (revG_two h8)]
                go_simp
                exact HK.out 158 _ _ rfl (hJ.put (by decide) (by decide) hb rfl)
              · obtain ⟨x, rfl⟩ := hJ.k
                have s153 : b.tmps.getD 153 undef = .bool true := (hS.i 153 (by decide)).trans (hJ.v 8 (by decide) (hwt ⟨8, .data⟩ (by simp) rfl))
                have s158 : b.tmps.getD 158 undef = .bool true := (hS.i 158 (by decide)).trans (hJ.v 13 (by decide) (hwt ⟨13, .data⟩ (by simp) rfl))
                go_simp
                exact HK.out 159 _ _ rfl (hJ.put (by decide) (by decide) (Below.refl _ _) rfl)
              · obtain ⟨x, rfl⟩ := hJ.k
                have s159 : b.tmps.getD 159 undef = .bool true := (hS.i 159 (by decide)).trans (hJ.v 14 (by decide) (hwt ⟨14, .data⟩ (by simp) rfl))
                go_simp
                exact HK.out 2 _ _ rfl (hJ.put (by decide) (by decide) (Below.refl _ _) rfl)
            case hend =>
              intro L f w' hall hJ
              have h2_ : f 2 = .bool true := hJ.v 15 (by decide) (hall 15 (by decide))
              obtain ⟨z9, rfl⟩ := hJ.k
              clear hall hJ
              have BF := below_then Bw25 z9.be
              simp only [chs, Act.put, List.setIfInBounds_toArray, List.set_cons_zero, List.set_cons_succ, h2_]
              go_wp2
              go_ret
              exact ⟨by simp, BF⟩
          · go_wp2_with fail
            rw [HWg23.out, HHg23.out, HY9.out]
            refine wp_region_sl [145, 146, 147, 148, 149, 150, 151, 152, 153, 154, 155, 156, 157, 158, 159, 2] (JR w25 [.bool true, .bool true, .bool true, .bool true, .agg #[.slice A21 n21 c21, .slice B21 m21 d21], .agg #[.slice A23 n23 c23, .slice B23 m23 d23], .bool true, .bool true, .bool true, .agg #[.slice A8 n8 c8, .slice B8 m8 d8], undef, undef, .agg #[.slice A8 n8 c8, .slice B8 m8 d8], .bool true, .bool true, .bool true] [none, none, none, none, none, none, none, none, none, none, some (revG h8), some (revG (revG h8)), none, none, none, none] [145, 146, 147, 148, 149, 150, 151, 152, 153, 154, 155, 156, 157, 158, 159, 2]) (by kernel_rfl) (by kernel_rfl) (by decide) (by intro d hd; simp at hd; simp; omega) (by kernel_rfl) ?h0 ?hstep ?hend
            case h0 => exact ⟨⟨⟨y9.W.drew, below_then y9.be ((Below.refl _ _).drew)⟩, rfl⟩, (fun k _ hk => absurd hk Bool.false_ne_true)⟩
            case hstep =>
              intro i L f w' o b K ho hLi hwt hcl hJ hS HK HN
              have hi : i < 16 := by simpa using (Array.getElem?_eq_some_iff.1 ho).1
              rcases (show i = 0 ∨ i = 1 ∨ i = 2 ∨ i = 3 ∨ i = 4 ∨ i = 5 ∨ i = 6 ∨ i = 7 ∨ i = 8 ∨ i = 9 ∨ i = 10 ∨ i = 11 ∨ i = 12 ∨ i = 13 ∨ i = 14 ∨ i = 15 by omega) with rfl | rfl | rfl | rfl | rfl | rfl | rfl | rfl | rfl | rfl | rfl | rfl | rfl | rfl | rfl | rfl
              all_goals
                simp only [List.getElem?_toArray, List.getElem?_cons_zero, List.getElem?_cons_succ, Option.some.injEq] at ho
                subst ho
                clear hi hcl
              · obtain ⟨x, rfl⟩ := hJ.k
                have s22 : b.tmps.getD 22 undef = .bool true := hS.o 22 (by decide)
                go_simp
                exact HK.out 145 _ _ rfl (hJ.put (by decide) (by decide) (Below.refl _ _) rfl)
              · obtain ⟨x, rfl⟩ := hJ.k
                have s24 : b.tmps.getD 24 undef = .bool true := hS.o 24 (by decide)
                go_simp
                exact HK.out 146 _ _ rfl (hJ.put (by decide) (by decide) (Below.refl _ _) rfl)
              · obtain ⟨x, rfl⟩ := hJ.k
                have s145 : b.tmps.getD 145 undef = .bool true := (hS.i 145 (by decide)).trans (hJ.v 0 (by decide) (hwt ⟨0, .data⟩ (by simp) rfl))
                have s146 : b.tmps.getD 146 undef = .bool true := (hS.i 146 (by decide)).trans (hJ.v 1 (by decide) (hwt ⟨1, .data⟩ (by simp) rfl))
                go_simp
                exact HK.out 147 _ _ rfl (hJ.put (by decide) (by decide) (Below.refl _ _) rfl)
              · obtain ⟨x, rfl⟩ := hJ.k
                have s147 : b.tmps.getD 147 undef = .bool true := (hS.i 147 (by decide)).trans (hJ.v 2 (by decide) (hwt ⟨2, .data⟩ (by simp) rfl))
                go_simp
                exact HK.out 148 _ _ rfl (hJ.put (by decide) (by decide) (Below.refl _ _) rfl)
              · obtain ⟨x, rfl⟩ := hJ.k
                have s148 : b.tmps.getD 148 undef = .bool true := (hS.i 148 (by decide)).trans (hJ.v 3 (by decide) (hwt ⟨3, .guard⟩ (by simp) rfl))
                have s21 : b.tmps.getD 21 undef = .pointer (some ⟨bg21, 0, none⟩) := hS.o 21 (by decide)
                have u0 := kg210 x
                have u1 := kg211 x
                rw [if_pos (wanted_of rfl rfl s148)]
                go_simp
                exact HK.out 149 _ _ rfl (hJ.put (by decide) (by decide) (Below.refl _ _) rfl)
              · obtain ⟨x, rfl⟩ := hJ.k
                have s148 : b.tmps.getD 148 undef = .bool true := (hS.i 148 (by decide)).trans (hJ.v 3 (by decide) (hwt ⟨3, .guard⟩ (by simp) rfl))
                have s23 : b.tmps.getD 23 undef = .pointer (some ⟨bg23, 0, none⟩) := hS.o 23 (by decide)
                have u0 := kg230 x
                have u1 := kg231 x
                rw [if_pos (wanted_of rfl rfl s148)]
                go_simp
                exact HK.out 150 _ _ rfl (hJ.put (by decide) (by decide) (Below.refl _ _) rfl)
              · obtain ⟨x, rfl⟩ := hJ.k
                have s148 : b.tmps.getD 148 undef = .bool true := (hS.i 148 (by decide)).trans (hJ.v 3 (by decide) (hwt ⟨3, .guard⟩ (by simp) rfl))
                have s149 : b.tmps.getD 149 undef = .agg #[.slice A21 n21 c21, .slice B21 m21 d21] := (hS.i 149 (by decide)).trans (hJ.v 4 (by decide) (hwt ⟨4, .data⟩ (by simp) rfl))
                have s150 : b.tmps.getD 150 undef = .agg #[.slice A23 n23 c23, .slice B23 m23 d23] := (hS.i 150 (by decide)).trans (hJ.v 5 (by decide) (hwt ⟨5, .data⟩ (by simp) rfl))
                rw [if_pos (wanted_of rfl rfl s148)]
                go_simp
                refine (eqG_rd x.W (c := c21) (d := d21) (c2 := c23) (d2 := d23) (HG21.out x) (HG23.out x)).mono ?_
                rintro e w'' ⟨rfl, hb⟩
                rw [decide_eq_true rfl]
                go_simp
                exact HK.out 151 _ _ rfl (hJ.put (by decide) (by decide) hb rfl)
              · obtain ⟨x, rfl⟩ := hJ.k
                have s148 : b.tmps.getD 148 undef = .bool true := (hS.i 148 (by decide)).trans (hJ.v 3 (by decide) (hwt ⟨3, .data⟩ (by simp) rfl))
                have s151 : b.tmps.getD 151 undef = .bool true := (hS.i 151 (by decide)).trans (hJ.v 6 (by decide) (hwt ⟨6, .data⟩ (by simp) rfl))
                go_simp
                exact HK.out 152 _ _ rfl (hJ.put (by decide) (by decide) (Below.refl _ _) rfl)
              · obtain ⟨x, rfl⟩ := hJ.k
                have s152 : b.tmps.getD 152 undef = .bool true := (hS.i 152 (by decide)).trans (hJ.v 7 (by decide) (hwt ⟨7, .data⟩ (by simp) rfl))
                go_simp
                exact HK.out 153 _ _ rfl (hJ.put (by decide) (by decide) (Below.refl _ _) rfl)
              · obtain ⟨x, rfl⟩ := hJ.k
                have s153 : b.tmps.getD 153 undef = .bool true := (hS.i 153 (by decide)).trans (hJ.v 8 (by decide) (hwt ⟨8, .guard⟩ (by simp) rfl))
                have s18 : b.tmps.getD 18 undef = .pointer (some ⟨bg18, 0, none⟩) := hS.o 18 (by decide)
                have u0 := kg180 x
                have u1 := kg181 x
                rw [if_pos (wanted_of rfl rfl s153)]
                go_simp
                exact HK.out 154 _ _ rfl (hJ.put (by decide) (by decide) (Below.refl _ _) rfl)
              · obtain ⟨x, rfl⟩ := hJ.k
                have s153 : b.tmps.getD 153 undef = .bool true := (hS.i 153 (by decide)).trans (hJ.v 8 (by decide) (hwt ⟨8, .guard⟩ (by simp) rfl))
                have s154 : b.tmps.getD 154 undef = .agg #[.slice A8 n8 c8, .slice B8 m8 d8] := (hS.i 154 (by decide)).trans (hJ.v 9 (by decide) (hwt ⟨9, .data⟩ (by simp) rfl))
                rw [if_pos (wanted_of rfl rfl s153)]
                go_simp
                refine (implReverseGraph_is x.W (c := c8) (d := d8) (HG8.out x)).mono ?_
                rintro e w'' ⟨A7, n7, c7, B7, m7, d7, rfl, J7, hb⟩
                go_simp
                exact HK.out 155 _ _ rfl (hJ.put (by decide) (by decide) hb ⟨_, _, _, _, _, _, rfl, gis_any J7⟩)
              · obtain ⟨x, rfl⟩ := hJ.k
                have s153 : b.tmps.getD 153 undef = .bool true := (hS.i 153 (by decide)).trans (hJ.v 8 (by decide) (hwt ⟨8, .guard⟩ (by simp) rfl))
                obtain ⟨A6, n6, c6, B6, m6, d6, hs6, G6⟩ := hJ.v 10 (by decide) (hwt ⟨10, .data⟩ (by simp) rfl)
                have s155 : b.tmps.getD 155 undef = .agg #[.slice A6 n6 c6, .slice B6 m6 d6] := (hS.i 155 (by decide)).trans hs6
                clear hs6
                rw [if_pos (wanted_of rfl rfl s153)]
                go_simp
                refine (implReverseGraph_is x.W (c := c6) (d := d6) G6).mono ?_
                rintro e w'' ⟨A7, n7, c7, B7, m7, d7, rfl, J7, hb⟩
                go_simp
                exact HK.out 156 _ _ rfl (hJ.put (by decide) (by decide) hb ⟨_, _, _, _, _, _, rfl, gis_any J7⟩)
              · obtain ⟨x, rfl⟩ := hJ.k
                have s153 : b.tmps.getD 153 undef = .bool true := (hS.i 153 (by decide)).trans (hJ.v 8 (by decide) (hwt ⟨8, .guard⟩ (by simp) rfl))
                have s18 : b.tmps.getD 18 undef = .pointer (some ⟨bg18, 0, none⟩) := hS.o 18 (by decide)
                have u0 := kg180 x
                have u1 := kg181 x
                rw [if_pos (wanted_of rfl rfl s153)]
                go_simp
                exact HK.out 157 _ _ rfl (hJ.put (by decide) (by decide) (Below.refl _ _) rfl)
              · obtain ⟨x, rfl⟩ := hJ.k
                have s153 : b.tmps.getD 153 undef = .bool true := (hS.i 153 (by decide)).trans (hJ.v 8 (by decide) (hwt ⟨8, .guard⟩ (by simp) rfl))
                obtain ⟨A6, n6, c6, B6, m6, d6, hs6, G6⟩ := hJ.v 11 (by decide) (hwt ⟨11, .data⟩ (by simp) rfl)
                have s156 : b.tmps.getD 156 undef = .agg #[.slice A6 n6 c6, .slice B6 m6 d6] := (hS.i 156 (by decide)).trans hs6
                clear hs6
                have s157 : b.tmps.getD 157 undef = .agg #[.slice A8 n8 c8, .slice B8 m8 d8] := (hS.i 157 (by decide)).trans (hJ.v 12 (by decide) (hwt ⟨12, .data⟩ (by simp) rfl))
                rw [if_pos (wanted_of rfl rfl s153)]
                go_simp
                refine (eqG_rd x.W (c := c6) (d := d6) (c2 := c8) (d2 := d8) G6 (HG8.out x)).mono ?_
                rintro e w'' ⟨rfl, hb⟩
                rw [decide_eq_true (revG_two h8)]
                go_simp
                exact HK.out 158 _ _ rfl (hJ.put (by decide) (by decide) hb rfl)
              · obtain ⟨x, rfl⟩ := hJ.k
                have s153 : b.tmps.getD 153 undef = .bool true := (hS.i 153 (by decide)).trans (hJ.v 8 (by decide) (hwt ⟨8, .data⟩ (by simp) rfl))
                have s158 : b.tmps.getD 158 undef = .bool true := (hS.i 158 (by decide)).trans (hJ.v 13 (by decide) (hwt ⟨13, .data⟩ (by simp) rfl))
                go_simp
                exact HK.out 159 _ _ rfl (hJ.put (by decide) (by decide) (Below.refl _ _) rfl)
              · obtain ⟨x, rfl⟩ := hJ.k
                have s159 : b.tmps.getD 159 undef = .bool true := (hS.i 159 (by decide)).trans (hJ.v 14 (by decide) (hwt ⟨14, .data⟩ (by simp) rfl))
                go_simp
                exact HK.out 2 _ _ rfl (hJ.put (by decide) (by decide) (Below.refl _ _) rfl)
            case hend =>
              intro L f w' hall hJ
              have h2_ : f 2 = .bool true := hJ.v 15 (by decide) (hall 15 (by decide))
              obtain ⟨z9, rfl⟩ := hJ.k
              clear hall hJ
              have BF := below_then Bw25 z9.be
              simp only [chs, Act.put, List.setIfInBounds_toArray, List.set_cons_zero, List.set_cons_succ, h2_]
              go_wp2
              go_ret
              exact ⟨by simp, BF⟩
      · obtain rfl := HGB.out rfl
        have lg130 := Xg13.cell 0
        have lg131 := Xg13.cell 1
        have lg30 := Xg3.cell 0
        have lg31 := Xg3.cell 1
        go_wp2_with fail
        refine (eqG_rd _ (c := c13) (d := d13) (c2 := c) (d2 := d) G13 G3).mono ?_
        rintro e w16 ⟨rfl, hb⟩
        clear lg130 lg131 lg30 lg31
        rw [decide_eq_true rfl]
        have Bw16 := below_then Bw15 hb
        replace Xg3 := Xg3.below hb Xg3.lt
        replace Xg13 := Xg13.below hb Xg13.lt
        replace G3 := G3.up hb
        replace G13 := G13.up hb
        clear hb
        clear Bw15
        clear Xg3 Xg13 G3 G13 HGB
        go_wp2_with fail
        refine (drawParseE_any w16 (R0.up Bw16)).mono ?_
        rintro e w17 ⟨T, rfl, hT, hb⟩
        have Bw17 := below_then Bw16 hb
        clear hb
        clear Bw16
        obtain ⟨y, hy⟩ : ∃ y, prsEN T.data.toList = y := ⟨_, rfl⟩
        obtain ⟨ok, hok⟩ : ∃ ok, prsEB T.data.toList = ok := ⟨_, rfl⟩
        have hbk : ok = true → fmtE y = T.data.toList := fun h => by rw [← hy]; exact edge_back (hok.trans h)
        have p1 := fun w TP TE TM => implParseEdge_any w TP TE TM T (by omega)
        simp only [hy, hok] at p1
        have P1 := Lib.hid p1
        have HBK := Lib.hid hbk
        clear p1 hy hok hbk
        go_wp2_with fail
        refine (P1.out _ (TP.up Bw17) (TE.up Bw17) (TM.up Bw17)).mono ?_
        rintro e w18 ⟨rfl, hb⟩
        have Bw18 := below_then Bw17 hb
        clear hb
        clear Bw17
        have bA : Below w18.heap.size w18 (w18.alloc (.cells #[.int .i64 y.id, .int .i64 y.fr, .int .i64 y.to, .int .i64 y.lb] 29)) := (Below.refl _ _).alloc (Nat.le_refl _) _
        have Xe16 := Blk.new w18 29 #[.int .i64 y.id, .int .i64 y.fr, .int .i64 y.to, .int .i64 y.lb]
        have BN := below_then Bw18 bA
        clear bA Bw18
        generalize hwe16 : w18.alloc (.cells #[.int .i64 y.id, .int .i64 y.fr, .int .i64 y.to, .int .i64 y.lb] 29) = w19 at *
        generalize hhe16 : w18.heap.size = be16 at *
        have HWe16 := Lib.hid hwe16
        have HHe16 := Lib.hid hhe16
        clear hwe16 hhe16
        have Bw19 := BN
        clear BN
        clear P1
        cases ok
        · clear Xe16 HBK
          go_wp2_with fail
          rw [HWe16.out, HHe16.out]
          refine (drawSet_any w19 (R0.up Bw19)).mono ?_
          rintro e w20 ⟨A8, n8, c8, B8, m8, d8, p8, q8, rfl, ⟨vs8, es8, G8⟩, _, _, hb⟩
          obtain ⟨h8, hh8⟩ : ∃ g : G, (⟨vs8, es8⟩ : G) = g := ⟨_, rfl⟩
          rw [hh8] at G8
          clear hh8
          have Bw20 := below_then Bw19 hb
          clear hb
          clear Bw19
          have bA : Below w20.heap.size w20 (w20.alloc (.cells #[.slice A8 n8 c8, .slice B8 m8 d8] 27)) := (Below.refl _ _).alloc (Nat.le_refl _) _
          have Xg18 := Blk.new w20 27 #[.slice A8 n8 c8, .slice B8 m8 d8]
          have BN := below_then Bw20 bA
          replace G8 := G8.up bA
          clear bA Bw20
          generalize hwg18 : w20.alloc (.cells #[.slice A8 n8 c8, .slice B8 m8 d8] 27) = w21 at *
          generalize hhg18 : w20.heap.size = bg18 at *
          have HWg18 := Lib.hid hwg18
          have HHg18 := Lib.hid hhg18
          clear hwg18 hhg18
          have Bw21 := BN
          clear BN
          obtain ⟨st, hst⟩ : ∃ st, (setG h8 p8 q8).2 = st := ⟨_, rfl⟩
          obtain ⟨gs, hgs⟩ : ∃ gs, (setG h8 p8 q8).1 = gs := ⟨_, rfl⟩
          have i1 := fun w (h : GRd w A8 n8 B8 m8 h8) => implSetValue_is w (c := c8) (d := d8) h p8 q8
          have i2 := fun w (h : GRd w A8 n8 B8 m8 h8) => specSetValue_is w (c := c8) (d := d8) h p8 q8
          simp only [hst, hgs] at i1 i2
          have I1 := Lib.hid i1
          have I2 := Lib.hid i2
          clear i1 i2 hst hgs
          have lg180 := Xg18.cell 0
          have lg181 := Xg18.cell 1
          go_wp2_with fail
          rw [HWg18.out, HHg18.out]
          refine (I1.out _ G8).mono ?_
          rintro e w22 ⟨A21, n21, c21, B21, m21, d21, rfl, J21, hb⟩
          clear lg180 lg181
          have Bw22 := below_then Bw21 hb
          replace Xg18 := Xg18.below hb Xg18.lt
          replace G8 := G8.up hb
          clear hb
          clear Bw21
          have G21 := gis_any J21
          clear J21
          have bA : Below w22.heap.size w22 (w22.alloc (.cells #[.slice A21 n21 c21, .slice B21 m21 d21] 27)) := (Below.refl _ _).alloc (Nat.le_refl _) _
          have Xg21 := Blk.new w22 27 #[.slice A21 n21 c21, .slice B21 m21 d21]
          have BN := below_then Bw22 bA
          replace Xg18 := Xg18.below bA Xg18.lt
          replace G8 := G8.up bA
          replace G21 := G21.up bA
          clear bA Bw22
          generalize hwg21 : w22.alloc (.cells #[.slice A21 n21 c21, .slice B21 m21 d21] 27) = w23 at *
          generalize hhg21 : w22.heap.size = bg21 at *
          have HWg21 := Lib.hid hwg21
          have HHg21 := Lib.hid hhg21
          clear hwg21 hhg21
          have Bw23 := BN
          clear BN
          have lg180 := Xg18.cell 0
          rw [← HWg21.out] at lg180
          have lg181 := Xg18.cell 1
          rw [← HWg21.out] at lg181
          go_wp2_with fail
          rw [HWg21.out, HHg21.out]
          refine (I2.out _ G8).mono ?_
          rintro e w24 ⟨A23, n23, c23, B23, m23, d23, rfl, J23, hb⟩
          clear lg180 lg181
          have Bw24 := below_then Bw23 hb
          replace Xg18 := Xg18.below hb Xg18.lt
          replace Xg21 := Xg21.below hb Xg21.lt
          replace G8 := G8.up hb
          replace G21 := G21.up hb
          clear hb
          clear Bw23
          have G23 := gis_any J23
          clear J23 I1 I2
          have bA : Below w24.heap.size w24 (w24.alloc (.cells #[.slice A23 n23 c23, .slice B23 m23 d23] 27)) := (Below.refl _ _).alloc (Nat.le_refl _) _
          have Xg23 := Blk.new w24 27 #[.slice A23 n23 c23, .slice B23 m23 d23]
          have BN := below_then Bw24 bA
          replace Xg18 := Xg18.below bA Xg18.lt
          replace Xg21 := Xg21.below bA Xg21.lt
          replace G8 := G8.up bA
          replace G21 := G21.up bA
          replace G23 := G23.up bA
          clear bA Bw24
          generalize hwg23 : w24.alloc (.cells #[.slice A23 n23 c23, .slice B23 m23 d23] 27) = w25 at *
          generalize hhg23 : w24.heap.size = bg23 at *
          have HWg23 := Lib.hid hwg23
          have HHg23 := Lib.hid hhg23
          clear hwg23 hhg23
          have Bw25 := BN
          clear BN
          obtain ⟨y9, hy9⟩ : ∃ y : Kept w25, w25 = y.W := ⟨⟨w25, Below.refl _ _⟩, rfl⟩
          have HY9 := Lib.hid hy9
          clear hy9
          have kg180 := Xg18.kc (v := .slice A8 n8 c8) 0 rfl
          have kg181 := Xg18.kc (v := .slice B8 m8 d8) 1 rfl
          have kg210 := Xg21.kc (v := .slice A21 n21 c21) 0 rfl
          have kg211 := Xg21.kc (v := .slice B21 m21 d21) 1 rfl
          have kg230 := Xg23.kc (v := .slice A23 n23 c23) 0 rfl
          have kg231 := Xg23.kc (v := .slice B23 m23 d23) 1 rfl
          have HG8 : RowKit.Hid (∀ x : Kept w25, GRd x.W A8 n8 B8 m8 h8) := Lib.hid fun x => G8.up x.be
          have HG21 : RowKit.Hid (∀ x : Kept w25, GRd x.W A21 n21 B21 m21 gs) := Lib.hid fun x => G21.up x.be
          have HG23 : RowKit.Hid (∀ x : Kept w25, GRd x.W A23 n23 B23 m23 gs) := Lib.hid fun x => G23.up x.be
          clear Xg18 Xg21 Xg23 G8 G21 G23
          cases st
          · go_wp2_with fail
            rw [HWg23.out, HHg23.out, HY9.out]
            refine wp_region_sl [145, 146, 147, 148, 149, 150, 151, 152, 153, 154, 155, 156, 157, 158, 159, 2] (JR w25 [.bool false, .bool false, .bool true, .bool true, .agg #[.slice A21 n21 c21, .slice B21 m21 d21], .agg #[.slice A23 n23 c23, .slice B23 m23 d23], .bool true, .bool true, .bool true, .agg #[.slice A8 n8 c8, .slice B8 m8 d8], undef, undef, .agg #[.slice A8 n8 c8, .slice B8 m8 d8], .bool true, .bool true, .bool true] [none, none, none, none, none, none, none, none, none, none, some (revG h8), some (revG (revG h8)), none, none, none, none] [145, 146, 147, 148, 149, 150, 151, 152, 153, 154, 155, 156, 157, 158, 159, 2]) (by kernel_rfl) (by kernel_rfl) (by decide) (by intro d hd; simp at hd; simp; omega) (by kernel_rfl) ?h0 ?hstep ?hend
            case h0 => exact ⟨⟨⟨y9.W.drew, below_then y9.be ((Below.refl _ _).drew)⟩, rfl⟩, (fun k _ hk => absurd hk Bool.false_ne_true)⟩
            case hstep =>
              intro i L f w' o b K ho hLi hwt hcl hJ hS HK HN
              have hi : i < 16 := by simpa using (Array.getElem?_eq_some_iff.1 ho).1
              rcases (show i = 0 ∨ i = 1 ∨ i = 2 ∨ i = 3 ∨ i = 4 ∨ i = 5 ∨ i = 6 ∨ i = 7 ∨ i = 8 ∨ i = 9 ∨ i = 10 ∨ i = 11 ∨ i = 12 ∨ i = 13 ∨ i = 14 ∨ i = 15 by omega) with rfl | rfl | rfl | rfl | rfl | rfl | rfl | rfl | rfl | rfl | rfl | rfl | rfl | rfl | rfl | rfl
              all_goals
                simp only [List.getElem?_toArray, List.getElem?_cons_zero, List.getElem?_cons_succ, Option.some.injEq] at ho
                subst ho
                clear hi hcl
              · obtain ⟨x, rfl⟩ := hJ.k
                have s22 : b.tmps.getD 22 undef = .bool false := hS.o 22 (by decide)
                go_simp
                exact HK.out 145 _ _ rfl (hJ.put (by decide) (by decide) (Below.refl _ _) rfl)
              · obtain ⟨x, rfl⟩ := hJ.k
                have s24 : b.tmps.getD 24 undef = .bool false := hS.o 24 (by decide)
                go_simp
                exact HK.out 146 _ _ rfl (hJ.put (by decide) (by decide) (Below.refl _ _) rfl)
              · obtain ⟨x, rfl⟩ := hJ.k
                have s145 : b.tmps.getD 145 undef = .bool false := (hS.i 145 (by decide)).trans (hJ.v 0 (by decide) (hwt ⟨0, .data⟩ (by simp) rfl))
                have s146 : b.tmps.getD 146 undef = .bool false := (hS.i 146 (by decide)).trans (hJ.v 1 (by decide) (hwt ⟨1, .data⟩ (by simp) rfl))
                go_simp
                exact HK.out 147 _ _ rfl (hJ.put (by decide) (by decide) (Below.refl _ _) rfl)
              · obtain ⟨x, rfl⟩ := hJ.k
                have s147 : b.tmps.getD 147 undef = .bool true := (hS.i 147 (by decide)).trans (hJ.v 2 (by decide) (hwt ⟨2, .data⟩ (by simp) rfl))
                go_simp
                exact HK.out 148 _ _ rfl (hJ.put (by decide) (by decide) (Below.refl _ _) rfl)
              · obtain ⟨x, rfl⟩ := hJ.k
                have s148 : b.tmps.getD 148 undef = .bool true := (hS.i 148 (by decide)).trans (hJ.v 3 (by decide) (hwt ⟨3, .guard⟩ (by simp) rfl))
                have s21 : b.tmps.getD 21 undef = .pointer (some ⟨bg21, 0, none⟩) := hS.o 21 (by decide)
                have u0 := kg210 x
                have u1 := kg211 x
                rw [if_pos (wanted_of rfl rfl s148)]
                go_simp
                exact HK.out 149 _ _ rfl (hJ.put (by decide) (by decide) (Below.refl _ _) rfl)
              · obtain ⟨x, rfl⟩ := hJ.k
                have s148 : b.tmps.getD 148 undef = .bool true := (hS.i 148 (by decide)).trans (hJ.v 3 (by decide) (hwt ⟨3, .guard⟩ (by simp) rfl))
                have s23 : b.tmps.getD 23 undef = .pointer (some ⟨bg23, 0, none⟩) := hS.o 23 (by decide)
                have u0 := kg230 x
                have u1 := kg231 x
                rw [if_pos (wanted_of rfl rfl s148)]
                go_simp
                exact HK.out 150 _ _ rfl (hJ.put (by decide) (by decide) (Below.refl _ _) rfl)
              · obtain ⟨x, rfl⟩ := hJ.k
                have s148 : b.tmps.getD 148 undef = .bool true := (hS.i 148 (by decide)).trans (hJ.v 3 (by decide) (hwt ⟨3, .guard⟩ (by simp) rfl))
                have s149 : b.tmps.getD 149 undef = .agg #[.slice A21 n21 c21, .slice B21 m21 d21] := (hS.i 149 (by decide)).trans (hJ.v 4 (by decide) (hwt ⟨4, .data⟩ (by simp) rfl))
                have s150 : b.tmps.getD 150 undef = .agg #[.slice A23 n23 c23, .slice B23 m23 d23] := (hS.i 150 (by decide)).trans (hJ.v 5 (by decide) (hwt ⟨5, .data⟩ (by simp) rfl))
                rw [if_pos (wanted_of rfl rfl s148)]
                go_simp
                refine (eqG_rd x.W (c := c21) (d := d21) (c2 := c23) (d2 := d23) (HG21.out x) (HG23.out x)).mono ?_
                rintro e w'' ⟨rfl, hb⟩
                rw [decide_eq_true rfl]
                go_simp
                exact HK.out 151 _ _ rfl (hJ.put (by decide) (by decide) hb rfl)
              · obtain ⟨x, rfl⟩ := hJ.k
                have s148 : b.tmps.getD 148 undef = .bool true := (hS.i 148 (by decide)).trans (hJ.v 3 (by decide) (hwt ⟨3, .data⟩ (by simp) rfl))
                have s151 : b.tmps.getD 151 undef = .bool true := (hS.i 151 (by decide)).trans (hJ.v 6 (by decide) (hwt ⟨6, .data⟩ (by simp) rfl))
                go_simp
                exact HK.out 152 _ _ rfl (hJ.put (by decide) (by decide) (Below.refl _ _) rfl)
              · obtain ⟨x, rfl⟩ := hJ.k
                have s152 : b.tmps.getD 152 undef = .bool true := (hS.i 152 (by decide)).trans (hJ.v 7 (by decide) (hwt ⟨7, .data⟩ (by simp) rfl))
                go_simp
                exact HK.out 153 _ _ rfl (hJ.put (by decide) (by decide) (Below.refl _ _) rfl)
              · obtain ⟨x, rfl⟩ := hJ.k
                have s153 : b.tmps.getD 153 undef = .bool true := (hS.i 153 (by decide)).trans (hJ.v 8 (by decide) (hwt ⟨8, .guard⟩ (by simp) rfl))
                have s18 : b.tmps.getD 18 undef = .pointer (some ⟨bg18, 0, none⟩) := hS.o 18 (by decide)
                have u0 := kg180 x
                have u1 := kg181 x
                rw [if_pos (wanted_of rfl rfl s153)]
                go_simp
                exact HK.out 154 _ _ rfl (hJ.put (by decide) (by decide) (Below.refl _ _) rfl)
              · obtain ⟨x, rfl⟩ := hJ.k
                have s153 : b.tmps.getD 153 undef = .bool true := (hS.i 153 (by decide)).trans (hJ.v 8 (by decide) (hwt ⟨8, .guard⟩ (by simp) rfl))
                have s154 : b.tmps.getD 154 undef = .agg #[.slice A8 n8 c8, .slice B8 m8 d8] := (hS.i 154 (by decide)).trans (hJ.v 9 (by decide) (hwt ⟨9, .data⟩ (by simp) rfl))
                rw [if_pos (wanted_of rfl rfl s153)]
                go_simp
                refine (implReverseGraph_is x.W (c := c8) (d := d8) (HG8.out x)).mono ?_
                rintro e w'' ⟨A7, n7, c7, B7, m7, d7, rfl, J7, hb⟩
                go_simp
                exact HK.out 155 _ _ rfl (hJ.put (by decide) (by decide) hb ⟨_, _, _, _, _, _, rfl, gis_any J7⟩)
              · obtain ⟨x, rfl⟩ := hJ.k
                have s153 : b.tmps.getD 153 undef = .bool true := (hS.i 153 (by decide)).trans (hJ.v 8 (by decide) (hwt ⟨8, .guard⟩ (by simp) rfl))
                obtain ⟨A6, n6, c6, B6, m6, d6, hs6, G6⟩ := hJ.v 10 (by decide) (hwt ⟨10, .data⟩ (by simp) rfl)
                have s155 : b.tmps.getD 155 undef = .agg #[.slice A6 n6 c6, .slice B6 m6 d6] := (hS.i 155 (by decide)).trans hs6
                clear hs6
                rw [if_pos (wanted_of rfl rfl s153)]
                go_simp
                refine (implReverseGraph_is x.W (c := c6) (d := d6) G6).mono ?_
                rintro e w'' ⟨A7, n7, c7, B7, m7, d7, rfl, J7, hb⟩
                go_simp
                exact HK.out 156 _ _ rfl (hJ.put (by decide) (by decide) hb ⟨_, _, _, _, _, _, rfl, gis_any J7⟩)
              · obtain ⟨x, rfl⟩ := hJ.k
                have s153 : b.tmps.getD 153 undef = .bool true := (hS.i 153 (by decide)).trans (hJ.v 8 (by decide) (hwt ⟨8, .guard⟩ (by simp) rfl))
                have s18 : b.tmps.getD 18 undef = .pointer (some ⟨bg18, 0, none⟩) := hS.o 18 (by decide)
                have u0 := kg180 x
                have u1 := kg181 x
                rw [if_pos (wanted_of rfl rfl s153)]
                go_simp
                exact HK.out 157 _ _ rfl (hJ.put (by decide) (by decide) (Below.refl _ _) rfl)
              · obtain ⟨x, rfl⟩ := hJ.k
                have s153 : b.tmps.getD 153 undef = .bool true := (hS.i 153 (by decide)).trans (hJ.v 8 (by decide) (hwt ⟨8, .guard⟩ (by simp) rfl))
                obtain ⟨A6, n6, c6, B6, m6, d6, hs6, G6⟩ := hJ.v 11 (by decide) (hwt ⟨11, .data⟩ (by simp) rfl)
                have s156 : b.tmps.getD 156 undef = .agg #[.slice A6 n6 c6, .slice B6 m6 d6] := (hS.i 156 (by decide)).trans hs6
                clear hs6
                have s157 : b.tmps.getD 157 undef = .agg #[.slice A8 n8 c8, .slice B8 m8 d8] := (hS.i 157 (by decide)).trans (hJ.v 12 (by decide) (hwt ⟨12, .data⟩ (by simp) rfl))
                rw [if_pos (wanted_of rfl rfl s153)]
                go_simp
                refine (eqG_rd x.W (c := c6) (d := d6) (c2 := c8) (d2 := d8) G6 (HG8.out x)).mono ?_
                rintro e w'' ⟨rfl, hb⟩
                rw [decide_eq_true (revG_two h8)]
                go_simp
                exact HK.out 158 _ _ rfl (hJ.put (by decide) (by decide) hb rfl)
              · obtain ⟨x, rfl⟩ := hJ.k
                have s153 : b.tmps.getD 153 undef = .bool true := (hS.i 153 (by decide)).trans (hJ.v 8 (by decide) (hwt ⟨8, .data⟩ (by simp) rfl))
                have s158 : b.tmps.getD 158 undef = .bool true := (hS.i 158 (by decide)).trans (hJ.v 13 (by decide) (hwt ⟨13, .data⟩ (by simp) rfl))
                go_simp
                exact HK.out 159 _ _ rfl (hJ.put (by decide) (by decide) (Below.refl _ _) rfl)
              · obtain ⟨x, rfl⟩ := hJ.k
                have s159 : b.tmps.getD 159 undef = .bool true := (hS.i 159 (by decide)).trans (hJ.v 14 (by decide) (hwt ⟨14, .data⟩ (by simp) rfl))
                go_simp
                exact HK.out 2 _ _ rfl (hJ.put (by decide) (by decide) (Below.refl _ _) rfl)
            case hend =>
              intro L f w' hall hJ
              have h2_ : f 2 = .bool true := hJ.v 15 (by decide) (hall 15 (by decide))
              obtain ⟨z9, rfl⟩ := hJ.k
              clear hall hJ
              have BF := below_then Bw25 z9.be
              simp only [chs, Act.put, List.setIfInBounds_toArray, List.set_cons_zero, List.set_cons_succ, h2_]
              go_wp2
              go_ret
              exact ⟨by simp, BF⟩
          · go_wp2_with fail
            rw [HWg23.out, HHg23.out, HY9.out]
            refine wp_region_sl [145, 146, 147, 148, 149, 150, 151, 152, 153, 154, 155, 156, 157, 158, 159, 2] (JR w25 [.bool true, .bool true, .bool true, .bool true, .agg #[.slice A21 n21 c21, .slice B21 m21 d21], .agg #[.slice A23 n23 c23, .slice B23 m23 d23], .bool true, .bool true, .bool true, .agg #[.slice A8 n8 c8, .slice B8 m8 d8], undef, undef, .agg #[.slice A8 n8 c8, .slice B8 m8 d8], .bool true, .bool true, .bool true] [none, none, none, none, none, none, none, none, none, none, some (revG h8), some (revG (revG h8)), none, none, none, none] [145, 146, 147, 148, 149, 150, 151, 152, 153, 154, 155, 156, 157, 158, 159, 2]) (by kernel_rfl) (by kernel_rfl) (by decide) (by intro d hd; simp at hd; simp; omega) (by kernel_rfl) ?h0 ?hstep ?hend
            case h0 => exact ⟨⟨⟨y9.W.drew, below_then y9.be ((Below.refl _ _).drew)⟩, rfl⟩, (fun k _ hk => absurd hk Bool.false_ne_true)⟩
            case hstep =>
              intro i L f w' o b K ho hLi hwt hcl hJ hS HK HN
              have hi : i < 16 := by simpa using (Array.getElem?_eq_some_iff.1 ho).1
              rcases (show i = 0 ∨ i = 1 ∨ i = 2 ∨ i = 3 ∨ i = 4 ∨ i = 5 ∨ i = 6 ∨ i = 7 ∨ i = 8 ∨ i = 9 ∨ i = 10 ∨ i = 11 ∨ i = 12 ∨ i = 13 ∨ i = 14 ∨ i = 15 by omega) with rfl | rfl | rfl | rfl | rfl | rfl | rfl | rfl | rfl | rfl | rfl | rfl | rfl | rfl | rfl | rfl
              all_goals
                simp only [List.getElem?_toArray, List.getElem?_cons_zero, List.getElem?_cons_succ, Option.some.injEq] at ho
                subst ho
                clear hi hcl
              · obtain ⟨x, rfl⟩ := hJ.k
                have s22 : b.tmps.getD 22 undef = .bool true := hS.o 22 (by decide)
                go_simp
                exact HK.out 145 _ _ rfl (hJ.put (by decide) (by decide) (Below.refl _ _) rfl)
              · obtain ⟨x, rfl⟩ := hJ.k
                have s24 : b.tmps.getD 24 undef = .bool true := hS.o 24 (by decide)
                go_simp
                exact HK.out 146 _ _ rfl (hJ.put (by decide) (by decide) (Below.refl _ _) rfl)
              · obtain ⟨x, rfl⟩ := hJ.k
                have s145 : b.tmps.getD 145 undef = .bool true := (hS.i 145 (by decide)).trans (hJ.v 0 (by decide) (hwt ⟨0, .data⟩ (by simp) rfl))
                have s146 : b.tmps.getD 146 undef = .bool true := (hS.i 146 (by decide)).trans (hJ.v 1 (by decide) (hwt ⟨1, .data⟩ (by simp) rfl))
                go_simp
                exact HK.out 147 _ _ rfl (hJ.put (by decide) (by decide) (Below.refl _ _) rfl)
              · obtain ⟨x, rfl⟩ := hJ.k
                have s147 : b.tmps.getD 147 undef = .bool true := (hS.i 147 (by decide)).trans (hJ.v 2 (by decide) (hwt ⟨2, .data⟩ (by simp) rfl))
                go_simp
                exact HK.out 148 _ _ rfl (hJ.put (by decide) (by decide) (Below.refl _ _) rfl)
              · obtain ⟨x, rfl⟩ := hJ.k
                have s148 : b.tmps.getD 148 undef = .bool true := (hS.i 148 (by decide)).trans (hJ.v 3 (by decide) (hwt ⟨3, .guard⟩ (by simp) rfl))
                have s21 : b.tmps.getD 21 undef = .pointer (some ⟨bg21, 0, none⟩) := hS.o 21 (by decide)
                have u0 := kg210 x
                have u1 := kg211 x
                rw [if_pos (wanted_of rfl rfl s148)]
                go_simp
                exact HK.out 149 _ _ rfl (hJ.put (by decide) (by decide) (Below.refl _ _) rfl)
              · obtain ⟨x, rfl⟩ := hJ.k
                have s148 : b.tmps.getD 148 undef = .bool true := (hS.i 148 (by decide)).trans (hJ.v 3 (by decide) (hwt ⟨3, .guard⟩ (by simp) rfl))
                have s23 : b.tmps.getD 23 undef = .pointer (some ⟨bg23, 0, none⟩) := hS.o 23 (by decide)
                have u0 := kg230 x
                have u1 := kg231 x
                rw [if_pos (wanted_of rfl rfl s148)]
                go_simp
                exact HK.out 150 _ _ rfl (hJ.put (by decide) (by decide) (Below.refl _ _) rfl)
              · obtain ⟨x, rfl⟩ := hJ.k
                have s148 : b.tmps.getD 148 undef = .bool true := (hS.i 148 (by decide)).trans (hJ.v 3 (by decide) (hwt ⟨3, .guard⟩ (by simp) rfl))
                have s149 : b.tmps.getD 149 undef = .agg #[.slice A21 n21 c21, .slice B21 m21 d21] := (hS.i 149 (by decide)).trans (hJ.v 4 (by decide) (hwt ⟨4, .data⟩ (by simp) rfl))
                have s150 : b.tmps.getD 150 undef = .agg #[.slice A23 n23 c23, .slice B23 m23 d23] := (hS.i 150 (by decide)).trans (hJ.v 5 (by decide) (hwt ⟨5, .data⟩ (by simp) rfl))
                rw [if_pos (wanted_of rfl rfl s148)]
                go_simp
                refine (eqG_rd x.W (c := c21) (d := d21) (c2 := c23) (d2 := d23) (HG21.out x) (HG23.out x)).mono ?_
                rintro e w'' ⟨rfl, hb⟩
                rw [decide_eq_true rfl]
                go_simp
                exact HK.out 151 _ _ rfl (hJ.put (by decide) (by decide) hb rfl)
              · obtain ⟨x, rfl⟩ := hJ.k
                have s148 : b.tmps.getD 148 undef = .bool true := (hS.i 148 (by decide)).trans (hJ.v 3 (by decide) (hwt ⟨3, .data⟩ (by simp) rfl))
                have s151 : b.tmps.getD 151 undef = .bool true := (hS.i 151 (by decide)).trans (hJ.v 6 (by decide) (hwt ⟨6, .data⟩ (by simp) rfl))
                go_simp
                exact HK.out 152 _ _ rfl (hJ.put (by decide) (by decide) (Below.refl _ _) rfl)
              · obtain ⟨x, rfl⟩ := hJ.k
                have s152 : b.tmps.getD 152 undef = .bool true := (hS.i 152 (by decide)).trans (hJ.v 7 (by decide) (hwt ⟨7, .data⟩ (by simp) rfl))
                go_simp
                exact HK.out 153 _ _ rfl (hJ.put (by decide) (by decide) (Below.refl _ _) rfl)
              · obtain ⟨x, rfl⟩ := hJ.k
                have s153 : b.tmps.getD 153 undef = .bool true := (hS.i 153 (by decide)).trans (hJ.v 8 (by decide) (hwt ⟨8, .guard⟩ (by simp) rfl))
                have s18 : b.tmps.getD 18 undef = .pointer (some ⟨bg18, 0, none⟩) := hS.o 18 (by decide)
                have u0 := kg180 x
                have u1 := kg181 x
                rw [if_pos (wanted_of rfl rfl s153)]
                go_simp
                exact HK.out 154 _ _ rfl (hJ.put (by decide) (by decide) (Below.refl _ _) rfl)
              · obtain ⟨x, rfl⟩ := hJ.k
                have s153 : b.tmps.getD 153 undef = .bool true := (hS.i 153 (by decide)).trans (hJ.v 8 (by decide) (hwt ⟨8, .guard⟩ (by simp) rfl))
                have s154 : b.tmps.getD 154 undef = .agg #[.slice A8 n8 c8, .slice B8 m8 d8] := (hS.i 154 (by decide)).trans (hJ.v 9 (by decide) (hwt ⟨9, .data⟩ (by simp) rfl))
                rw [if_pos (wanted_of rfl rfl s153)]
                go_simp
                refine (implReverseGraph_is x.W (c := c8) (d := d8) (HG8.out x)).mono ?_
                rintro e w'' ⟨A7, n7, c7, B7, m7, d7, rfl, J7, hb⟩
                go_simp
                exact HK.out 155 _ _ rfl (hJ.put (by decide) (by decide) hb ⟨_, _, _, _, _, _, rfl, gis_any J7⟩)
              · obtain ⟨x, rfl⟩ := hJ.k
                have s153 : b.tmps.getD 153 undef = .bool true := (hS.i 153 (by decide)).trans (hJ.v 8 (by decide) (hwt ⟨8, .guard⟩ (by simp) rfl))
                obtain ⟨A6, n6, c6, B6, m6, d6, hs6, G6⟩ := hJ.v 10 (by decide) (hwt ⟨10, .data⟩ (by simp) rfl)
                have s155 : b.tmps.getD 155 undef = .agg #[.slice A6 n6 c6, .slice B6 m6 d6] := (hS.i 155 (by decide)).trans hs6
                clear hs6
                rw [if_pos (wanted_of rfl rfl s153)]
                go_simp
                refine (implReverseGraph_is x.W (c := c6) (d := d6) G6).mono ?_
                rintro e w'' ⟨A7, n7, c7, B7, m7, d7, rfl, J7, hb⟩
                go_simp
                exact HK.out 156 _ _ rfl (hJ.put (by decide) (by decide) hb ⟨_, _, _, _, _, _, rfl, gis_any J7⟩)
              · obtain ⟨x, rfl⟩ := hJ.k
                have s153 : b.tmps.getD 153 undef = .bool true := (hS.i 153 (by decide)).trans (hJ.v 8 (by decide) (hwt ⟨8, .guard⟩ (by simp) rfl))
                have s18 : b.tmps.getD 18 undef = .pointer (some ⟨bg18, 0, none⟩) := hS.o 18 (by decide)
                have u0 := kg180 x
                have u1 := kg181 x
                rw [if_pos (wanted_of rfl rfl s153)]
                go_simp
                exact HK.out 157 _ _ rfl (hJ.put (by decide) (by decide) (Below.refl _ _) rfl)
              · obtain ⟨x, rfl⟩ := hJ.k
                have s153 : b.tmps.getD 153 undef = .bool true := (hS.i 153 (by decide)).trans (hJ.v 8 (by decide) (hwt ⟨8, .guard⟩ (by simp) rfl))
                obtain ⟨A6, n6, c6, B6, m6, d6, hs6, G6⟩ := hJ.v 11 (by decide) (hwt ⟨11, .data⟩ (by simp) rfl)
                have s156 : b.tmps.getD 156 undef = .agg #[.slice A6 n6 c6, .slice B6 m6 d6] := (hS.i 156 (by decide)).trans hs6
                clear hs6
                have s157 : b.tmps.getD 157 undef = .agg #[.slice A8 n8 c8, .slice B8 m8 d8] := (hS.i 157 (by decide)).trans (hJ.v 12 (by decide) (hwt ⟨12, .data⟩ (by simp) rfl))
                rw [if_pos (wanted_of rfl rfl s153)]
                go_simp
                refine (eqG_rd x.W (c := c6) (d := d6) (c2 := c8) (d2 := d8) G6 (HG8.out x)).mono ?_
                rintro e w'' ⟨rfl, hb⟩
                rw [decide_eq_true (revG_two h8)]
                go_simp
                exact HK.out 158 _ _ rfl (hJ.put (by decide) (by decide) hb rfl)
              · obtain ⟨x, rfl⟩ := hJ.k
                have s153 : b.tmps.getD 153 undef = .bool true := (hS.i 153 (by decide)).trans (hJ.v 8 (by decide) (hwt ⟨8, .data⟩ (by simp) rfl))
                have s158 : b.tmps.getD 158 undef = .bool true := (hS.i 158 (by decide)).trans (hJ.v 13 (by decide) (hwt ⟨13, .data⟩ (by simp) rfl))
                go_simp
                exact HK.out 159 _ _ rfl (hJ.put (by decide) (by decide) (Below.refl _ _) rfl)
              · obtain ⟨x, rfl⟩ := hJ.k
                have s159 : b.tmps.getD 159 undef = .bool true := (hS.i 159 (by decide)).trans (hJ.v 14 (by decide) (hwt ⟨14, .data⟩ (by simp) rfl))
                go_simp
                exact HK.out 2 _ _ rfl (hJ.put (by decide) (by decide) (Below.refl _ _) rfl)
            case hend =>
              intro L f w' hall hJ
              have h2_ : f 2 = .bool true := hJ.v 15 (by decide) (hall 15 (by decide))
              obtain ⟨z9, rfl⟩ := hJ.k
              clear hall hJ
              have BF := below_then Bw25 z9.be
              simp only [chs, Act.put, List.setIfInBounds_toArray, List.set_cons_zero, List.set_cons_succ, h2_]
              go_wp2
              go_ret
              exact ⟨by simp, BF⟩
        · have hfe := implFormatEdge_any w19 (TP.up Bw19) y
          rw [HBK.out rfl, show (⟨T.data.toList.toArray⟩ : ByteArray) = T from rfl] at hfe
          have HFE := Lib.hid hfe
          clear hfe
          have le160 := Xe16.cell 0
          have le161 := Xe16.cell 1
          have le162 := Xe16.cell 2
          have le163 := Xe16.cell 3
          go_wp2_with fail
          rw [HWe16.out, HHe16.out]
          refine (HFE.out).mono ?_
          rintro e w20 ⟨rfl, hb⟩
          clear le160 le161 le162 le163
          clear HFE
          have Bw20 := below_then Bw19 hb
          replace Xe16 := Xe16.below hb Xe16.lt
          clear hb
          clear Bw19
          clear Xe16 HBK
          go_wp2_with fail
          refine (drawSet_any w20 (R0.up Bw20)).mono ?_
          rintro e w21 ⟨A8, n8, c8, B8, m8, d8, p8, q8, rfl, ⟨vs8, es8, G8⟩, _, _, hb⟩
          obtain ⟨h8, hh8⟩ : ∃ g : G, (⟨vs8, es8⟩ : G) = g := ⟨_, rfl⟩
          rw [hh8] at G8
          clear hh8
          have Bw21 := below_then Bw20 hb
          clear hb
          clear Bw20
          have bA : Below w21.heap.size w21 (w21.alloc (.cells #[.slice A8 n8 c8, .slice B8 m8 d8] 27)) := (Below.refl _ _).alloc (Nat.le_refl _) _
          have Xg18 := Blk.new w21 27 #[.slice A8 n8 c8, .slice B8 m8 d8]
          have BN := below_then Bw21 bA
          replace G8 := G8.up bA
          clear bA Bw21
          generalize hwg18 : w21.alloc (.cells #[.slice A8 n8 c8, .slice B8 m8 d8] 27) = w22 at *
          generalize hhg18 : w21.heap.size = bg18 at *
          have HWg18 := Lib.hid hwg18
          have HHg18 := Lib.hid hhg18
          clear hwg18 hhg18
          have Bw22 := BN
          clear BN
          obtain ⟨st, hst⟩ : ∃ st, (setG h8 p8 q8).2 = st := ⟨_, rfl⟩
          obtain ⟨gs, hgs⟩ : ∃ gs, (setG h8 p8 q8).1 = gs := ⟨_, rfl⟩
          have i1 := fun w (h : GRd w A8 n8 B8 m8 h8) => implSetValue_is w (c := c8) (d := d8) h p8 q8
          have i2 := fun w (h : GRd w A8 n8 B8 m8 h8) => specSetValue_is w (c := c8) (d := d8) h p8 q8
          simp only [hst, hgs] at i1 i2
          have I1 := Lib.hid i1
          have I2 := Lib.hid i2
          clear i1 i2 hst hgs
          have lg180 := Xg18.cell 0
          have lg181 := Xg18.cell 1
          go_wp2_with fail
          rw [HWg18.out, HHg18.out]
          refine (I1.out _ G8).mono ?_
          rintro e w23 ⟨A21, n21, c21, B21, m21, d21, rfl, J21, hb⟩
          clear lg180 lg181
          have Bw23 := below_then Bw22 hb
          replace Xg18 := Xg18.below hb Xg18.lt
          replace G8 := G8.up hb
          clear hb
          clear Bw22
          have G21 := gis_any J21
          clear J21
          have bA : Below w23.heap.size w23 (w23.alloc (.cells #[.slice A21 n21 c21, .slice B21 m21 d21] 27)) := (Below.refl _ _).alloc (Nat.le_refl _) _
          have Xg21 := Blk.new w23 27 #[.slice A21 n21 c21, .slice B21 m21 d21]
          have BN := below_then Bw23 bA
          replace Xg18 := Xg18.below bA Xg18.lt
          replace G8 := G8.up bA
          replace G21 := G21.up bA
          clear bA Bw23
          generalize hwg21 : w23.alloc (.cells #[.slice A21 n21 c21, .slice B21 m21 d21] 27) = w24 at *
          generalize hhg21 : w23.heap.size = bg21 at *
          have HWg21 := Lib.hid hwg21
          have HHg21 := Lib.hid hhg21
          clear hwg21 hhg21
          have Bw24 := BN
          clear BN
          have lg180 := Xg18.cell 0
          rw [← HWg21.out] at lg180
          have lg181 := Xg18.cell 1
          rw [← HWg21.out] at lg181
          go_wp2_with fail
          rw [HWg21.out, HHg21.out]
          refine (I2.out _ G8).mono ?_
          rintro e w25 ⟨A23, n23, c23, B23, m23, d23, rfl, J23, hb⟩
          clear lg180 lg181
          have Bw25 := below_then Bw24 hb
          replace Xg18 := Xg18.below hb Xg18.lt
          replace Xg21 := Xg21.below hb Xg21.lt
          replace G8 := G8.up hb
          replace G21 := G21.up hb
          clear hb
          clear Bw24
          have G23 := gis_any J23
          clear J23 I1 I2
          have bA : Below w25.heap.size w25 (w25.alloc (.cells #[.slice A23 n23 c23, .slice B23 m23 d23] 27)) := (Below.refl _ _).alloc (Nat.le_refl _) _
          have Xg23 := Blk.new w25 27 #[.slice A23 n23 c23, .slice B23 m23 d23]
          have BN := below_then Bw25 bA
          replace Xg18 := Xg18.below bA Xg18.lt
          replace Xg21 := Xg21.below bA Xg21.lt
          replace G8 := G8.up bA
          replace G21 := G21.up bA
          replace G23 := G23.up bA
          clear bA Bw25
          generalize hwg23 : w25.alloc (.cells #[.slice A23 n23 c23, .slice B23 m23 d23] 27) = w26 at *
          generalize hhg23 : w25.heap.size = bg23 at *
          have HWg23 := Lib.hid hwg23
          have HHg23 := Lib.hid hhg23
          clear hwg23 hhg23
          have Bw26 := BN
          clear BN
          obtain ⟨y9, hy9⟩ : ∃ y : Kept w26, w26 = y.W := ⟨⟨w26, Below.refl _ _⟩, rfl⟩
          have HY9 := Lib.hid hy9
          clear hy9
          have kg180 := Xg18.kc (v := .slice A8 n8 c8) 0 rfl
          have kg181 := Xg18.kc (v := .slice B8 m8 d8) 1 rfl
          have kg210 := Xg21.kc (v := .slice A21 n21 c21) 0 rfl
          have kg211 := Xg21.kc (v := .slice B21 m21 d21) 1 rfl
          have kg230 := Xg23.kc (v := .slice A23 n23 c23) 0 rfl
          have kg231 := Xg23.kc (v := .slice B23 m23 d23) 1 rfl
          have HG8 : RowKit.Hid (∀ x : Kept w26, GRd x.W A8 n8 B8 m8 h8) := Lib.hid fun x => G8.up x.be
          have HG21 : RowKit.Hid (∀ x : Kept w26, GRd x.W A21 n21 B21 m21 gs) := Lib.hid fun x => G21.up x.be
          have HG23 : RowKit.Hid (∀ x : Kept w26, GRd x.W A23 n23 B23 m23 gs) := Lib.hid fun x => G23.up x.be
          clear Xg18 Xg21 Xg23 G8 G21 G23
          cases st
          · go_wp2_with fail
            rw [HWg23.out, HHg23.out, HY9.out]
            refine wp_region_sl [145, 146, 147, 148, 149, 150, 151, 152, 153, 154, 155, 156, 157, 158, 159, 2] (JR w26 [.bool false, .bool false, .bool true, .bool true, .agg #[.slice A21 n21 c21, .slice B21 m21 d21], .agg #[.slice A23 n23 c23, .slice B23 m23 d23], .bool true, .bool true, .bool true, .agg #[.slice A8 n8 c8, .slice B8 m8 d8], undef, undef, .agg #[.slice A8 n8 c8, .slice B8 m8 d8], .bool true, .bool true, .bool true] [none, none, none, none, none, none, none, none, none, none, some (revG h8), some (revG (revG h8)), none, none, none, none] [145, 146, 147, 148, 149, 150, 151, 152, 153, 154, 155, 156, 157, 158, 159, 2]) (by kernel_rfl) (by kernel_rfl) (by decide) (by intro d hd; simp at hd; simp; omega) (by kernel_rfl) ?h0 ?hstep ?hend
            case h0 => exact ⟨⟨⟨y9.W.drew, below_then y9.be ((Below.refl _ _).drew)⟩, rfl⟩, (fun k _ hk => absurd hk Bool.false_ne_true)⟩
            case hstep =>
              intro i L f w' o b K ho hLi hwt hcl hJ hS HK HN
              have hi : i < 16 := by simpa using (Array.getElem?_eq_some_iff.1 ho).1
              rcases (show i = 0 ∨ i = 1 ∨ i = 2 ∨ i = 3 ∨ i = 4 ∨ i = 5 ∨ i = 6 ∨ i = 7 ∨ i = 8 ∨ i = 9 ∨ i = 10 ∨ i = 11 ∨ i = 12 ∨ i = 13 ∨ i = 14 ∨ i = 15 by omega) with rfl | rfl | rfl | rfl | rfl | rfl | rfl | rfl | rfl | rfl | rfl | rfl | rfl | rfl | rfl | rfl
              all_goals
                simp only [List.getElem?_toArray, List.getElem?_cons_zero, List.getElem?_cons_succ, Option.some.injEq] at ho
                subst ho
                clear hi hcl
              · obtain ⟨x, rfl⟩ := hJ.k
                have s22 : b.tmps.getD 22 undef = .bool false := hS.o 22 (by decide)
                go_simp
                exact HK.out 145 _ _ rfl (hJ.put (by decide) (by decide) (Below.refl _ _) rfl)
              · obtain ⟨x, rfl⟩ := hJ.k
                have s24 : b.tmps.getD 24 undef = .bool false := hS.o 24 (by decide)
                go_simp
                exact HK.out 146 _ _ rfl (hJ.put (by decide) (by decide) (Below.refl _ _) rfl)
              · obtain ⟨x, rfl⟩ := hJ.k
                have s145 : b.tmps.getD 145 undef = .bool false := (hS.i 145 (by decide)).trans (hJ.v 0 (by decide) (hwt ⟨0, .data⟩ (by simp) rfl))
                have s146 : b.tmps.getD 146 undef = .bool false := (hS.i 146 (by decide)).trans (hJ.v 1 (by decide) (hwt ⟨1, .data⟩ (by simp) rfl))
                go_simp
                exact HK.out 147 _ _ rfl (hJ.put (by decide) (by decide) (Below.refl _ _) rfl)
              · obtain ⟨x, rfl⟩ := hJ.k
                have s147 : b.tmps.getD 147 undef = .bool true := (hS.i 147 (by decide)).trans (hJ.v 2 (by decide) (hwt ⟨2, .data⟩ (by simp) rfl))
                go_simp
                exact HK.out 148 _ _ rfl (hJ.put (by decide) (by decide) (Below.refl _ _) rfl)
              · obtain ⟨x, rfl⟩ := hJ.k
                have s148 : b.tmps.getD 148 undef = .bool true := (hS.i 148 (by decide)).trans (hJ.v 3 (by decide) (hwt ⟨3, .guard⟩ (by simp) rfl))
                have s21 : b.tmps.getD 21 undef = .pointer (some ⟨bg21, 0, none⟩) := hS.o 21 (by decide)
                have u0 := kg210 x
                have u1 := kg211 x
                rw [if_pos (wanted_of rfl rfl s148)]
                go_simp
                exact HK.out 149 _ _ rfl (hJ.put (by decide) (by decide) (Below.refl _ _) rfl)
              · obtain ⟨x, rfl⟩ := hJ.k
                have s148 : b.tmps.getD 148 undef = .bool true := (hS.i 148 (by decide)).trans (hJ.v 3 (by decide) (hwt ⟨3, .guard⟩ (by simp) rfl))
                have s23 : b.tmps.getD 23 undef = .pointer (some ⟨bg23, 0, none⟩) := hS.o 23 (by decide)
                have u0 := kg230 x
                have u1 := kg231 x
                rw [if_pos (wanted_of rfl rfl s148)]
                go_simp
                exact HK.out 150 _ _ rfl (hJ.put (by decide) (by decide) (Below.refl _ _) rfl)
              · obtain ⟨x, rfl⟩ := hJ.k
                have s148 : b.tmps.getD 148 undef = .bool true := (hS.i 148 (by decide)).trans (hJ.v 3 (by decide) (hwt ⟨3, .guard⟩ (by simp) rfl))
                have s149 : b.tmps.getD 149 undef = .agg #[.slice A21 n21 c21, .slice B21 m21 d21] := (hS.i 149 (by decide)).trans (hJ.v 4 (by decide) (hwt ⟨4, .data⟩ (by simp) rfl))
                have s150 : b.tmps.getD 150 undef = .agg #[.slice A23 n23 c23, .slice B23 m23 d23] := (hS.i 150 (by decide)).trans (hJ.v 5 (by decide) (hwt ⟨5, .data⟩ (by simp) rfl))
                rw [if_pos (wanted_of rfl rfl s148)]
                go_simp
                refine (eqG_rd x.W (c := c21) (d := d21) (c2 := c23) (d2 := d23) (HG21.out x) (HG23.out x)).mono ?_
                rintro e w'' ⟨rfl, hb⟩
                rw [decide_eq_true rfl]
                go_simp
                exact HK.out 151 _ _ rfl (hJ.put (by decide) (by decide) hb rfl)
              · obtain ⟨x, rfl⟩ := hJ.k
                have s148 : b.tmps.getD 148 undef = .bool true := (hS.i 148 (by decide)).trans (hJ.v 3 (by decide) (hwt ⟨3, .data⟩ (by simp) rfl))
                have s151 : b.tmps.getD 151 undef = .bool true := (hS.i 151 (by decide)).trans (hJ.v 6 (by decide) (hwt ⟨6, .data⟩ (by simp) rfl))
                go_simp
                exact HK.out 152 _ _ rfl (hJ.put (by decide) (by decide) (Below.refl _ _) rfl)
              · obtain ⟨x, rfl⟩ := hJ.k
                have s152 : b.tmps.getD 152 undef = .bool true := (hS.i 152 (by decide)).trans (hJ.v 7 (by decide) (hwt ⟨7, .data⟩ (by simp) rfl))
                go_simp
                exact HK.out 153 _ _ rfl (hJ.put (by decide) (by decide) (Below.refl _ _) rfl)
              · obtain ⟨x, rfl⟩ := hJ.k
                have s153 : b.tmps.getD 153 undef = .bool true := (hS.i 153 (by decide)).trans (hJ.v 8 (by decide) (hwt ⟨8, .guard⟩ (by simp) rfl))
                have s18 : b.tmps.getD 18 undef = .pointer (some ⟨bg18, 0, none⟩) := hS.o 18 (by decide)
                have u0 := kg180 x
                have u1 := kg181 x
                rw [if_pos (wanted_of rfl rfl s153)]
                go_simp
                exact HK.out 154 _ _ rfl (hJ.put (by decide) (by decide) (Below.refl _ _) rfl)
              · obtain ⟨x, rfl⟩ := hJ.k
                have s153 : b.tmps.getD 153 undef = .bool true := (hS.i 153 (by decide)).trans (hJ.v 8 (by decide) (hwt ⟨8, .guard⟩ (by simp) rfl))
                have s154 : b.tmps.getD 154 undef = .agg #[.slice A8 n8 c8, .slice B8 m8 d8] := (hS.i 154 (by decide)).trans (hJ.v 9 (by decide) (hwt ⟨9, .data⟩ (by simp) rfl))
                rw [if_pos (wanted_of rfl rfl s153)]
                go_simp
                refine (implReverseGraph_is x.W (c := c8) (d := d8) (HG8.out x)).mono ?_
                rintro e w'' ⟨A7, n7, c7, B7, m7, d7, rfl, J7, hb⟩
                go_simp
                exact HK.out 155 _ _ rfl (hJ.put (by decide) (by decide) hb ⟨_, _, _, _, _, _, rfl, gis_any J7⟩)
              · obtain ⟨x, rfl⟩ := hJ.k
                have s153 : b.tmps.getD 153 undef = .bool true := (hS.i 153 (by decide)).trans (hJ.v 8 (by decide) (hwt ⟨8, .guard⟩ (by simp) rfl))
                obtain ⟨A6, n6, c6, B6, m6, d6, hs6, G6⟩ := hJ.v 10 (by decide) (hwt ⟨10, .data⟩ (by simp) rfl)
                have s155 : b.tmps.getD 155 undef = .agg #[.slice A6 n6 c6, .slice B6 m6 d6] := (hS.i 155 (by decide)).trans hs6
                clear hs6
                rw [if_pos (wanted_of rfl rfl s153)]
                go_simp
                refine (implReverseGraph_is x.W (c := c6) (d := d6) G6).mono ?_
                rintro e w'' ⟨A7, n7, c7, B7, m7, d7, rfl, J7, hb⟩
                go_simp
                exact HK.out 156 _ _ rfl (hJ.put (by decide) (by decide) hb ⟨_, _, _, _, _, _, rfl, gis_any J7⟩)
              · obtain ⟨x, rfl⟩ := hJ.k
                have s153 : b.tmps.getD 153 undef = .bool true := (hS.i 153 (by decide)).trans (hJ.v 8 (by decide) (hwt ⟨8, .guard⟩ (by simp) rfl))
                have s18 : b.tmps.getD 18 undef = .pointer (some ⟨bg18, 0, none⟩) := hS.o 18 (by decide)
                have u0 := kg180 x
                have u1 := kg181 x
                rw [if_pos (wanted_of rfl rfl s153)]
                go_simp
                exact HK.out 157 _ _ rfl (hJ.put (by decide) (by decide) (Below.refl _ _) rfl)
              · obtain ⟨x, rfl⟩ := hJ.k
                have s153 : b.tmps.getD 153 undef = .bool true := (hS.i 153 (by decide)).trans (hJ.v 8 (by decide) (hwt ⟨8, .guard⟩ (by simp) rfl))
                obtain ⟨A6, n6, c6, B6, m6, d6, hs6, G6⟩ := hJ.v 11 (by decide) (hwt ⟨11, .data⟩ (by simp) rfl)
                have s156 : b.tmps.getD 156 undef = .agg #[.slice A6 n6 c6, .slice B6 m6 d6] := (hS.i 156 (by decide)).trans hs6
                clear hs6
                have s157 : b.tmps.getD 157 undef = .agg #[.slice A8 n8 c8, .slice B8 m8 d8] := (hS.i 157 (by decide)).trans (hJ.v 12 (by decide) (hwt ⟨12, .data⟩ (by simp) rfl))
                rw [if_pos (wanted_of rfl rfl s153)]
                go_simp
                refine (eqG_rd x.W (c := c6) (d := d6) (c2 := c8) (d2 := d8) G6 (HG8.out x)).mono ?_
                rintro e w'' ⟨rfl, hb⟩
                rw [decide_eq_true (revG_two h8)]
                go_simp
                exact HK.out 158 _ _ rfl (hJ.put (by decide) (by decide) hb rfl)
              · obtain ⟨x, rfl⟩ := hJ.k
                have s153 : b.tmps.getD 153 undef = .bool true := (hS.i 153 (by decide)).trans (hJ.v 8 (by decide) (hwt ⟨8, .data⟩ (by simp) rfl))
                have s158 : b.tmps.getD 158 undef = .bool true := (hS.i 158 (by decide)).trans (hJ.v 13 (by decide) (hwt ⟨13, .data⟩ (by simp) rfl))
                go_simp
                exact HK.out 159 _ _ rfl (hJ.put (by decide) (by decide) (Below.refl _ _) rfl)
              · obtain ⟨x, rfl⟩ := hJ.k
                have s159 : b.tmps.getD 159 undef = .bool true := (hS.i 159 (by decide)).trans (hJ.v 14 (by decide) (hwt ⟨14, .data⟩ (by simp) rfl))
                go_simp
                exact HK.out 2 _ _ rfl (hJ.put (by decide) (by decide) (Below.refl _ _) rfl)
            case hend =>
              intro L f w' hall hJ
              have h2_ : f 2 = .bool true := hJ.v 15 (by decide) (hall 15 (by decide))
              obtain ⟨z9, rfl⟩ := hJ.k
              clear hall hJ
              have BF := below_then Bw26 z9.be
              simp only [chs, Act.put, List.setIfInBounds_toArray, List.set_cons_zero, List.set_cons_succ, h2_]
              go_wp2
              go_ret
              exact ⟨by simp, BF⟩
          · go_wp2_with fail
            rw [HWg23.out, HHg23.out, HY9.out]
            refine wp_region_sl [145, 146, 147, 148, 149, 150, 151, 152, 153, 154, 155, 156, 157, 158, 159, 2] (JR w26 [.bool true, .bool true, .bool true, .bool true, .agg #[.slice A21 n21 c21, .slice B21 m21 d21], .agg #[.slice A23 n23 c23, .slice B23 m23 d23], .bool true, .bool true, .bool true, .agg #[.slice A8 n8 c8, .slice B8 m8 d8], undef, undef, .agg #[.slice A8 n8 c8, .slice B8 m8 d8], .bool true, .bool true, .bool true] [none, none, none, none, none, none, none, none, none, none, some (revG h8), some (revG (revG h8)), none, none, none, none] [145, 146, 147, 148, 149, 150, 151, 152, 153, 154, 155, 156, 157, 158, 159, 2]) (by kernel_rfl) (by kernel_rfl) (by decide) (by intro d hd; simp at hd; simp; omega) (by kernel_rfl) ?h0 ?hstep ?hend
            case h0 => exact ⟨⟨⟨y9.W.drew, below_then y9.be ((Below.refl _ _).drew)⟩, rfl⟩, (fun k _ hk => absurd hk Bool.false_ne_true)⟩
            case hstep =>
              intro i L f w' o b K ho hLi hwt hcl hJ hS HK HN
              have hi : i < 16 := by simpa using (Array.getElem?_eq_some_iff.1 ho).1
              rcases (show i = 0 ∨ i = 1 ∨ i = 2 ∨ i = 3 ∨ i = 4 ∨ i = 5 ∨ i = 6 ∨ i = 7 ∨ i = 8 ∨ i = 9 ∨ i = 10 ∨ i = 11 ∨ i = 12 ∨ i = 13 ∨ i = 14 ∨ i = 15 by omega) with rfl | rfl | rfl | rfl | rfl | rfl | rfl | rfl | rfl | rfl | rfl | rfl | rfl | rfl | rfl | rfl
              all_goals
                simp only [List.getElem?_toArray, List.getElem?_cons_zero, List.getElem?_cons_succ, Option.some.injEq] at ho
                subst ho
                clear hi hcl
              · obtain ⟨x, rfl⟩ := hJ.k
                have s22 : b.tmps.getD 22 undef = .bool true := hS.o 22 (by decide)
                go_simp
                exact HK.out 145 _ _ rfl (hJ.put (by decide) (by decide) (Below.refl _ _) rfl)
              · obtain ⟨x, rfl⟩ := hJ.k
                have s24 : b.tmps.getD 24 undef = .bool true := hS.o 24 (by decide)
                go_simp
                exact HK.out 146 _ _ rfl (hJ.put (by decide) (by decide) (Below.refl _ _) rfl)
              · obtain ⟨x, rfl⟩ := hJ.k
                have s145 : b.tmps.getD 145 undef = .bool true := (hS.i 145 (by decide)).trans (hJ.v 0 (by decide) (hwt ⟨0, .data⟩ (by simp) rfl))
                have s146 : b.tmps.getD 146 undef = .bool true := (hS.i 146 (by decide)).trans (hJ.v 1 (by decide) (hwt ⟨1, .data⟩ (by simp) rfl))
                go_simp
                exact HK.out 147 _ _ rfl (hJ.put (by decide) (by decide) (Below.refl _ _) rfl)
              · obtain ⟨x, rfl⟩ := hJ.k
                have s147 : b.tmps.getD 147 undef = .bool true := (hS.i 147 (by decide)).trans (hJ.v 2 (by decide) (hwt ⟨2, .data⟩ (by simp) rfl))
                go_simp
                exact HK.out 148 _ _ rfl (hJ.put (by decide) (by decide) (Below.refl _ _) rfl)
              · obtain ⟨x, rfl⟩ := hJ.k
                have s148 : b.tmps.getD 148 undef = .bool true := (hS.i 148 (by decide)).trans (hJ.v 3 (by decide) (hwt ⟨3, .guard⟩ (by simp) rfl))
                have s21 : b.tmps.getD 21 undef = .pointer (some ⟨bg21, 0, none⟩) := hS.o 21 (by decide)
                have u0 := kg210 x
                have u1 := kg211 x
                rw [if_pos (wanted_of rfl rfl s148)]
                go_simp
                exact HK.out 149 _ _ rfl (hJ.put (by decide) (by decide) (Below.refl _ _) rfl)
              · obtain ⟨x, rfl⟩ := hJ.k
                have s148 : b.tmps.getD 148 undef = .bool true := (hS.i 148 (by decide)).trans (hJ.v 3 (by decide) (hwt ⟨3, .guard⟩ (by simp) rfl))
                have s23 : b.tmps.getD 23 undef = .pointer (some ⟨bg23, 0, none⟩) := hS.o 23 (by decide)
                have u0 := kg230 x
                have u1 := kg231 x
                rw [if_pos (wanted_of rfl rfl s148)]
                go_simp
                exact HK.out 150 _ _ rfl (hJ.put (by decide) (by decide) (Below.refl _ _) rfl)
              · obtain ⟨x, rfl⟩ := hJ.k
                have s148 : b.tmps.getD 148 undef = .bool true := (hS.i 148 (by decide)).trans (hJ.v 3 (by decide) (hwt ⟨3, .guard⟩ (by simp) rfl))
                have s149 : b.tmps.getD 149 undef = .agg #[.slice A21 n21 c21, .slice B21 m21 d21] := (hS.i 149 (by decide)).trans (hJ.v 4 (by decide) (hwt ⟨4, .data⟩ (by simp) rfl))
                have s150 : b.tmps.getD 150 undef = .agg #[.slice A23 n23 c23, .slice B23 m23 d23] := (hS.i 150 (by decide)).trans (hJ.v 5 (by decide) (hwt ⟨5, .data⟩ (by simp) rfl))
                rw [if_pos (wanted_of rfl rfl s148)]
                go_simp
                refine (eqG_rd x.W (c := c21) (d := d21) (c2 := c23) (d2 := d23) (HG21.out x) (HG23.out x)).mono ?_
                rintro e w'' ⟨rfl, hb⟩
                rw [decide_eq_true rfl]
                go_simp
                exact HK.out 151 _ _ rfl (hJ.put (by decide) (by decide) hb rfl)
              · obtain ⟨x, rfl⟩ := hJ.k
                have s148 : b.tmps.getD 148 undef = .bool true := (hS.i 148 (by decide)).trans (hJ.v 3 (by decide) (hwt ⟨3, .data⟩ (by simp) rfl))
                have s151 : b.tmps.getD 151 undef = .bool true := (hS.i 151 (by decide)).trans (hJ.v 6 (by decide) (hwt ⟨6, .data⟩ (by simp) rfl))
                go_simp
                exact HK.out 152 _ _ rfl (hJ.put (by decide) (by decide) (Below.refl _ _) rfl)
              · obtain ⟨x, rfl⟩ := hJ.k
                have s152 : b.tmps.getD 152 undef = .bool true := (hS.i 152 (by decide)).trans (hJ.v 7 (by decide) (hwt ⟨7, .data⟩ (by simp) rfl))
                go_simp
                exact HK.out 153 _ _ rfl (hJ.put (by decide) (by decide) (Below.refl _ _) rfl)
              · obtain ⟨x, rfl⟩ := hJ.k
                have s153 : b.tmps.getD 153 undef = .bool true := (hS.i 153 (by decide)).trans (hJ.v 8 (by decide) (hwt ⟨8, .guard⟩ (by simp) rfl))
                have s18 : b.tmps.getD 18 undef = .pointer (some ⟨bg18, 0, none⟩) := hS.o 18 (by decide)
                have u0 := kg180 x
                have u1 := kg181 x
                rw [if_pos (wanted_of rfl rfl s153)]
                go_simp
                exact HK.out 154 _ _ rfl (hJ.put (by decide) (by decide) (Below.refl _ _) rfl)
              · obtain ⟨x, rfl⟩ := hJ.k
                have s153 : b.tmps.getD 153 undef = .bool true := (hS.i 153 (by decide)).trans (hJ.v 8 (by decide) (hwt ⟨8, .guard⟩ (by simp) rfl))
                have s154 : b.tmps.getD 154 undef = .agg #[.slice A8 n8 c8, .slice B8 m8 d8] := (hS.i 154 (by decide)).trans (hJ.v 9 (by decide) (hwt ⟨9, .data⟩ (by simp) rfl))
                rw [if_pos (wanted_of rfl rfl s153)]
                go_simp
                refine (implReverseGraph_is x.W (c := c8) (d := d8) (HG8.out x)).mono ?_
                rintro e w'' ⟨A7, n7, c7, B7, m7, d7, rfl, J7, hb⟩
                go_simp
                exact HK.out 155 _ _ rfl (hJ.put (by decide) (by decide) hb ⟨_, _, _, _, _, _, rfl, gis_any J7⟩)
              · obtain ⟨x, rfl⟩ := hJ.k
                have s153 : b.tmps.getD 153 undef = .bool true := (hS.i 153 (by decide)).trans (hJ.v 8 (by decide) (hwt ⟨8, .guard⟩ (by simp) rfl))
                obtain ⟨A6, n6, c6, B6, m6, d6, hs6, G6⟩ := hJ.v 10 (by decide) (hwt ⟨10, .data⟩ (by simp) rfl)
                have s155 : b.tmps.getD 155 undef = .agg #[.slice A6 n6 c6, .slice B6 m6 d6] := (hS.i 155 (by decide)).trans hs6
                clear hs6
                rw [if_pos (wanted_of rfl rfl s153)]
                go_simp
                refine (implReverseGraph_is x.W (c := c6) (d := d6) G6).mono ?_
                rintro e w'' ⟨A7, n7, c7, B7, m7, d7, rfl, J7, hb⟩
                go_simp
                exact HK.out 156 _ _ rfl (hJ.put (by decide) (by decide) hb ⟨_, _, _, _, _, _, rfl, gis_any J7⟩)
              · obtain ⟨x, rfl⟩ := hJ.k
                have s153 : b.tmps.getD 153 undef = .bool true := (hS.i 153 (by decide)).trans (hJ.v 8 (by decide) (hwt ⟨8, .guard⟩ (by simp) rfl))
                have s18 : b.tmps.getD 18 undef = .pointer (some ⟨bg18, 0, none⟩) := hS.o 18 (by decide)
                have u0 := kg180 x
                have u1 := kg181 x
                rw [if_pos (wanted_of rfl rfl s153)]
                go_simp
                exact HK.out 157 _ _ rfl (hJ.put (by decide) (by decide) (Below.refl _ _) rfl)
              · obtain ⟨x, rfl⟩ := hJ.k
                have s153 : b.tmps.getD 153 undef = .bool true := (hS.i 153 (by decide)).trans (hJ.v 8 (by decide) (hwt ⟨8, .guard⟩ (by simp) rfl))
                obtain ⟨A6, n6, c6, B6, m6, d6, hs6, G6⟩ := hJ.v 11 (by decide) (hwt ⟨11, .data⟩ (by simp) rfl)
                have s156 : b.tmps.getD 156 undef = .agg #[.slice A6 n6 c6, .slice B6 m6 d6] := (hS.i 156 (by decide)).trans hs6
                clear hs6
                have s157 : b.tmps.getD 157 undef = .agg #[.slice A8 n8 c8, .slice B8 m8 d8] := (hS.i 157 (by decide)).trans (hJ.v 12 (by decide) (hwt ⟨12, .data⟩ (by simp) rfl))
                rw [if_pos (wanted_of rfl rfl s153)]
                go_simp
                refine (eqG_rd x.W (c := c6) (d := d6) (c2 := c8) (d2 := d8) G6 (HG8.out x)).mono ?_
                rintro e w'' ⟨rfl, hb⟩
                rw [decide_eq_true (revG_two h8)]
                go_simp
                exact HK.out 158 _ _ rfl (hJ.put (by decide) (by decide) hb rfl)
              · obtain ⟨x, rfl⟩ := hJ.k
                have s153 : b.tmps.getD 153 undef = .bool true := (hS.i 153 (by decide)).trans (hJ.v 8 (by decide) (hwt ⟨8, .data⟩ (by simp) rfl))
                have s158 : b.tmps.getD 158 undef = .bool true := (hS.i 158 (by decide)).trans (hJ.v 13 (by decide) (hwt ⟨13, .data⟩ (by simp) rfl))
                go_simp
                exact HK.out 159 _ _ rfl (hJ.put (by decide) (by decide) (Below.refl _ _) rfl)
              · obtain ⟨x, rfl⟩ := hJ.k
                have s159 : b.tmps.getD 159 undef = .bool true := (hS.i 159 (by decide)).trans (hJ.v 14 (by decide) (hwt ⟨14, .data⟩ (by simp) rfl))
                go_simp
                exact HK.out 2 _ _ rfl (hJ.put (by decide) (by decide) (Below.refl _ _) rfl)
            case hend =>
              intro L f w' hall hJ
              have h2_ : f 2 = .bool true := hJ.v 15 (by decide) (hall 15 (by decide))
              obtain ⟨z9, rfl⟩ := hJ.k
              clear hall hJ
              have BF := below_then Bw26 z9.be
              simp only [chs, Act.put, List.setIfInBounds_toArray, List.set_cons_zero, List.set_cons_succ, h2_]
              go_wp2
              go_ret
              exact ⟨by simp, BF⟩

theorem met (os : Os) (args : Array Value) : laidMet Tryz.prog Rows.fnGraphsRow.laid ((World.laidAll Tryz.prog os Rows.fnGraphsRow.laid).forCall (fun _ _ => 0) ⟨#[], args, []⟩).memory :=
  laidMet_laidAll _ (by as_aux_lemma => kernel_rfl) (by as_aux_lemma => kernel_rfl)
theorem plainly (w : World) : laidMetH Tryz.prog Rows.fnGraphsRow.laid w = laidMet Tryz.prog Rows.fnGraphsRow.laid w := MakeChecks.laidMetH_plain _ _ _ (by as_aux_lemma => kernel_rfl)
set_option maxRecDepth 100000 in
theorem lifted (os : Os) (started : os.Started) (H : Type) (enc : TypeId × Value → H) (F : Stop.Interp) :
    ReturnsInHanded {} Tryz.checked os 3 .any ((OpenSpec.ofChange Rows.fnGraphsSpec).preRow enc Tryz.prog Tryz.f3 Rows.fnGraphsRow.domain false Rows.fnGraphsRow.laid) (((OpenSpec.ofChange Rows.fnGraphsSpec).at F).post enc Tryz.prog Tryz.f3 false true false false) := by
  refine returnsInHanded_of_row (C := Tryz.checked) (s := OpenSpec.ofChange Rows.fnGraphsSpec) own started (by as_aux_lemma => kernel_rfl) Tryz.func3
    (ChangeSpec.witness_shaped (enc := enc) (C := Tryz.checked) (os := os) (X := fun w _ => laidMetH Tryz.prog Rows.fnGraphsRow.laid w) false (World.laidAll Tryz.prog os Rows.fnGraphsRow.laid) #[.slice none 0 0] 8 (World.laidAll_os _ _ _) (World.shaped_of_ZipB (by as_aux_lemma => kernel_rfl) (by as_aux_lemma => kernel_rfl)) (by as_aux_lemma => kernel_rfl) (by as_aux_lemma => kernel_rfl) (by as_aux_lemma => kernel_rfl) (by rw [plainly]; exact met os _)) ?_
  intro W base args ds gs before hval0 hW _ _ _ hL0 hS _
  have hL : laidMetH Tryz.prog Rows.fnGraphsRow.laid W := hL0
  rw [plainly] at hL
  have hval : ∀ (j : Nat) t v, Tryz.f3.params[j]? = some t → args[j]? = some v → Value.okWide Tryz.prog W .any base t v := hval0
  have hW' := hW
  obtain ⟨p, q, hA0, hV, rfl, hfz, hnd⟩ := hW
  have hA : DataW.TrodAll enc Tryz.prog W 0 (fun _ => true) true Tryz.f3.params.toList args.toList ds p := hA0
  rw [Tryz.params3] at hA hval
  obtain ⟨v0, vs0, d0, ds0, p0, q0, hargs, rfl, rfl, h0, r0⟩ := trodAll_cons hA
  obtain ⟨rfl, rfl, rfl⟩ := trodAll_nil r0
  obtain rfl : args = #[v0] := by cases args; simp_all
  obtain ⟨rfl, rfl⟩ := trodVars_none hV
  have k0 := h0
  have lt0 : ∀ x ∈ p0, x.block < W.heap.size := by obtain ⟨m, hm⟩ := k0; exact DataW.trod_lt m _ _ _ hm
  have g0 := argBytes (hval 0 22 v0 rfl rfl) h0
  clear hA0 hval0
  refine (walk W hS hL v0 g0).mono fun e W' ⟨he, bel⟩ => ?_
  subst he
  exact ⟨_, rfl, _, _, _, [], _, [], hW', trodAll_mk1 (shut_bool Tryz.underlying4 _), (trodAll_cons_mk (Below.trod laidOut (by as_aux_lemma => kernel_rfl) (of_decide_eq_true (by as_aux_lemma => kernel_rfl)) k0 bel lt0) trodAll_mk0), rfl, bel.frame _, fun h => by cases h⟩

set_option maxHeartbeats 8000000 in
theorem closed : joinedFacts Tryz.prog 3 Tryz.f3 Rows.fnGraphsSpec Rows.fnGraphsRow = true := by
  unfold joinedFacts
  simp only [Bool.and_eq_true]
  repeat' apply And.intro
  all_goals first | with_reducible exact frMay | with_reducible exact frLifts _ rfl | with_reducible exact frMake _ rfl | (as_aux_lemma => kernel_rfl)
set_option maxRecDepth 100000 in
set_option maxHeartbeats 1000000 in
theorem over : Rows.fnGraphsRow.holds Tryz.pinned (OpenSpec.ofChange Rows.fnGraphsSpec) :=
  OpenClaim.holds_of_cond 3 Tryz.f3 rfl rfl rfl rfl rfl rfl rfl ⟨rfl, rfl, rfl, rfl, rfl⟩ rfl rfl rfl rfl rfl (by as_aux_lemma => kernel_rfl) Tryz.func3 closed
    (of_decide_eq_true (by as_aux_lemma => kernel_rfl)) (by unfold Func.isWrapper; first | (rw [if_pos (by decide +kernel)]; kernel_rfl) | (rw [if_neg (by decide +kernel)]; exact ⟨rfl, rfl⟩))
    (fun os started H enc _ F => by rw [OpenClaim.pre_eq_preRow]; exact lifted os started H enc F)

theorem plain (f : FuncId) (fn : Func) (hf : Tryz.pinned.checked.prog.funcNamed "loop.example/g01922/laws.FnGraphs" = some f) (hfn : Tryz.pinned.checked.prog.funcs[f]? = some fn) :
    true = Tryz.pinned.checked.prog.looks [] ∧ ∀ (j : Nat) t, fn.params[j]? = some t → Tryz.pinned.checked.prog.wantsStandIn t = false := by
  obtain rfl : f = 3 := Option.some.inj ((show Tryz.prog.funcNamed "loop.example/g01922/laws.FnGraphs" = some 3 by kernel_rfl).symm.trans hf) |>.symm
  obtain rfl : fn = Tryz.f3 := (Option.some.inj (Tryz.func3.symm.trans hfn)).symm
  refine ⟨by kernel_rfl, fun j t ht => ?_⟩
  rw [Tryz.params3] at ht
  have hm : t ∈ [22] := by simpa using Array.mem_of_getElem? ht
  have hall : ([22].all fun u => !Tryz.prog.wantsStandIn u) = true := by kernel_rfl
  exact (show Tryz.prog.wantsStandIn t = false by simpa using List.all_eq_true.1 hall t hm)

theorem proved : Rows.FnGraphsCardSaid :=
  Claim7.holds_tied_plain_at .later [] _ _ _ _ over (fun _ h => by cases h) (by as_aux_lemma => kernel_rfl) (fun _ h => by cases h) fnGraphs_row_tie rfl ⟨rfl, rfl⟩ (by as_aux_lemma => kernel_rfl) rfl plain (by as_aux_lemma => kernel_rfl)
end Go.Proofs.YtljggmgijadjaaaGreatDoor.fnGraphs
