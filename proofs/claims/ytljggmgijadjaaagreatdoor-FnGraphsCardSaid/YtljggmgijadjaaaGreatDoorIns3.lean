/- InsertEdge of the reference. -/
import Derived.Test.YtljggmgijadjaaaGreatDoorIns2
import Derived.Test.YtljggmgijadjaaaGreatDoorDelS
namespace Go.Proofs.YtljggmgijadjaaaGreatDoor
open Go.RowKit Go.ChangeShapes Go.WideShapes Go.ChangeAt Go.Deep
set_option linter.unusedVariables false
/-- What a cut behind k elements reads. -/
theorem reads_cut0 {w : World} {B size k n cap b o : Nat} {xs : List Value} (h : Reads w B size (some ⟨b, o, none⟩) n xs) (hk : k ≤ n) (hc : n ≤ cap) :
    ∃ A1, (if cap = k then (some ⟨b, o, none⟩ : Option Addr) else some ⟨b, o + k * size, none⟩) = A1 ∧ Reads w B size A1 (n - k) (xs.drop (k * size)) := by
  have := h.cut (k := k) (cap := cap) hk hc
  rw [Option.map_some, add_plain] at this
  exact ⟨_, rfl, this⟩
theorem reads_cutv {w : World} {B size k n cap : Nat} {A : Option Addr} {xs : List Value} (h : Reads w B size A n xs) (hk : k ≤ n) (hc : n ≤ cap) :
    ∃ A1, (if cap = k then A else A.map (fun x => x.add (k * size))) = A1 ∧ Reads w B size A1 (n - k) (xs.drop (k * size)) := ⟨_, rfl, h.cut hk hc⟩
theorem reads_newW {w : World} {e : TypeId} {size m : Nat} (cs : Array Value) (h : cs.size = m * size) : Reads (w.alloc (.cells cs e)) (w.alloc (.cells cs e)).heap.size size (some ⟨w.heap.size, 0, none⟩) m cs.toList :=
  (reads_new (e := e) cs h).more (by simp)
theorem ap_stepW {P : Program} (w : World) {t e : TypeId} {z : Value} {size bytes : Nat} (T : AppTy P t e z size bytes) (hb64 : bytes ≤ 64) (base : Nat) {ops : Array Oper} {o : Oper} {a : Act} {K : Act → World → Prop} {Q : Exit → Act → World → Prop} {E : Prop} (s x : Operand)
    (hgd : o.guard = none) (ho : o.op = .call { callee := .builtin .append, args := #[s, x], argTypes := #[t, t] })
    (v : Value) (n : Nat) (xs : List Value) (hs : a.eval s = v) (hown : w.ownsRow base e size v n xs)
    (A : Option Addr) (m c : Nat) (news : List Value) (hx : a.eval x = .slice A m c) (hr : Reads w w.heap.size size A m news) (h1 : ∀ u ∈ news, u.oneCell' = true)
    (hsm : Small (n + m)) (hbase : base ≤ w.heap.size)
    (h : ∀ v' w', w'.ownsRow base e size v' (n + m) (xs ++ news) → w.grownBy w' v.ownBlock → (v'.ownBlock = v.ownBlock ∨ v'.ownBlock = some w.heap.size) → K (a.put o.dst v') w') :
    if Region.wanted o (yielded ops a.tmps) = true then Oper.wp P o a w K Q else E :=
  ap_step w T hb64 base s x hgd ho v n xs hs hown w.heap.size A m c news hx hr h1 hsm hbase h
set_option maxRecDepth 4000 in
set_option maxHeartbeats 4000000 in
theorem specInsertEdge_is (w : World) {A B : Option Addr} {n c m d : Nat} {g : G} (h : GRd w A n B m g) (e : E) (hcap : m ≤ d) :
    Calls Tryz.prog 9 #[.agg #[.slice A n c, .slice B m d], .agg #[.int .i64 e.id, .int .i64 e.fr, .int .i64 e.to, .int .i64 e.lb]] w fun r w' => ∃ A2 n2 c2 B2 m2 d2, r = .returned (.tuple #[.agg #[.slice A2 n2 c2, .slice B2 m2 d2], .bool (insG g e).2]) ∧ GIs w' w.heap.size w'.heap.size A2 n2 c2 B2 m2 d2 ((insG g e).1.vs.map iv) (ecs (insG g e).1.es) ∧ Below w.heap.size w w' := by
  have hn := h.bn
  have hm := h.bm
  have lm := h.gr.lm
  have ln := h.gr.ln
  have HLM := Lib.hid lm
  have HLN := Lib.hid ln
  clear lm ln
  obtain ⟨e0, e1, e2, e3⟩ := e
  dsimp only
  go_enter Tryz.func9, Tryz.ntmps9
  go_wp2_with fail
  have hB0 : Below w.heap.size w (((w.alloc (.cells #[.slice A n c, .slice B m d] 27)).alloc (.cells #[.int .i64 e0, .int .i64 e1, .int .i64 e2, .int .i64 e3] 29)).alloc (.cells #[.slice none 0 0, .slice none 0 0] 27)) := (((Below.refl _ _).alloc (Nat.le_refl _) _).alloc (by simp) _).alloc (by simp; omega) _
  have XG := ((Blk.new w 27 #[.slice A n c, .slice B m d]).alloc (.cells #[.int .i64 e0, .int .i64 e1, .int .i64 e2, .int .i64 e3] 29)).alloc (.cells #[.slice none 0 0, .slice none 0 0] 27)
  have XE := (Blk.new (w.alloc (.cells #[.slice A n c, .slice B m d] 27)) 29 #[.int .i64 e0, .int .i64 e1, .int .i64 e2, .int .i64 e3]).alloc (.cells #[.slice none 0 0, .slice none 0 0] 27)
  have XR := Blk.new ((w.alloc (.cells #[.slice A n c, .slice B m d] 27)).alloc (.cells #[.int .i64 e0, .int .i64 e1, .int .i64 e2, .int .i64 e3] 29)) 27 #[.slice none 0 0, .slice none 0 0]
  simp only [World.size_alloc] at XE XR
  generalize (((w.alloc (.cells #[.slice A n c, .slice B m d] 27)).alloc (.cells #[.int .i64 e0, .int .i64 e1, .int .i64 e2, .int .i64 e3] 29)).alloc (.cells #[.slice none 0 0, .slice none 0 0] 27)) = w0 at *
  have hz0 := XR.lt
  have kA := XG.kc (v := .slice A n c) 0 rfl
  have kB := XG.kc (v := .slice B m d) 1 rfl
  have k0 := XE.kc (v := .int .i64 e0) 0 rfl
  have k1 := XE.kc (v := .int .i64 e1) 1 rfl
  have k2 := XE.kc (v := .int .i64 e2) 2 rfl
  have k3 := XE.kc (v := .int .i64 e3) 3 rfl
  have r0 := XR.kc (v := .slice none 0 0) 0 rfl
  have r1 := XR.kc (v := .slice none 0 0) 1 rfl
  have f0 := XR.kf 0
  have f1 := XR.kf 1
  refine (specValid_rd _ (h.up hB0)).mono ?_
  rintro e w3 ⟨rfl, hb3⟩
  obtain ⟨y, rfl⟩ := Kept.fst hb3
  clear hb3
  have hno : insOk g ⟨e0, e1, e2, e3⟩ = false → Hid (insG g ⟨e0, e1, e2, e3⟩ = (g, false)) := fun h => Lib.hid (insG_no h)
  cases hv : validG g
  · have HG := hno (by simp [insOk, hv])
    clear hno hv
    go_wp2_with (go_at_call 63; refine (l3Copy_is _ (h.up (below_then hB0 (Kept.be _)))).mono ?_; rintro e w' ⟨A1, c1, B1, d1, rfl, I3, hb3⟩; have hlo := hb3.size; have hla := (Kept.be y).size; obtain ⟨y3, rfl⟩ := Kept.of _ hb3; clear hb3)
    refine bodyPost_ret (v := .tuple #[.agg #[.slice A1 n c1, .slice B1 m d1], .bool false]) ?_ rfl ?_
    · simp [results, Tryz.results9, go_sem]
      go_simp
    · rw [HG.out]
      exact ⟨_, _, _, _, _, _, rfl, gis_ret I3 _ _ _ _ (by omega) (by omega) (by omega), below_ret (below_then hB0 (Kept.be _)) _ _ _ (by omega)⟩
  · cases hok : okE n ⟨e0, e1, e2, e3⟩
    · have HG := hno (by simp [insOk, hok, HLN.out])
      have HOK := Lib.hid hok
      clear hno hv hok
      go_wp2_with (first
        | (go_at_call 61; refine (l3Edge_any A B n c m d ⟨e0, e1, e2, e3⟩ _ (by omega)).mono ?_; rw [HOK.out]; rintro e w' ⟨rfl, hb⟩; obtain ⟨y4, rfl⟩ := Kept.of _ hb; clear hb)
        | (go_at_call 63; refine (l3Copy_is _ (h.up (below_then hB0 (Kept.be _)))).mono ?_; rintro e w' ⟨A1, c1, B1, d1, rfl, I3, hb3⟩; have hlo := hb3.size; have hla := (Kept.be y4).size; obtain ⟨y3, rfl⟩ := Kept.of _ hb3; clear hb3))
      refine bodyPost_ret (v := .tuple #[.agg #[.slice A1 n c1, .slice B1 m d1], .bool false]) ?_ rfl ?_
      · simp [results, Tryz.results9, go_sem]
        go_simp
      · rw [HG.out]
        exact ⟨_, _, _, _, _, _, rfl, gis_ret I3 _ _ _ _ (by omega) (by omega) (by omega), below_ret (below_then hB0 (Kept.be _)) _ _ _ (by omega)⟩
    · have HOK := Lib.hid hok
      by_cases hix : ixN g.es e0 < g.es.length
      · have HG := hno (by simp [insOk, hix])
        have HIX := Lib.hid (ixE_yes hix)
        clear hno hv hok hix
        go_wp2_with (first
          | (go_at_call 61; refine (l3Edge_any A B n c m d ⟨e0, e1, e2, e3⟩ _ (by omega)).mono ?_; rw [HOK.out]; rintro e w' ⟨rfl, hb⟩; obtain ⟨y4, rfl⟩ := Kept.of _ hb; clear hb)
          | (go_at_call 62; refine (specEdgeIx_rd _ (h.up (below_then hB0 (Kept.be _))) e0).mono ?_; rw [HIX.out]; rintro e w' ⟨rfl, hb⟩; obtain ⟨y5, rfl⟩ := Kept.of _ hb; clear hb)
          | (go_at_call 63; refine (l3Copy_is _ (h.up (below_then hB0 (Kept.be _)))).mono ?_; rintro e w' ⟨A1, c1, B1, d1, rfl, I3, hb3⟩; have hlo := hb3.size; have hla := (Kept.be y5).size; obtain ⟨y3, rfl⟩ := Kept.of _ hb3; clear hb3))
        refine bodyPost_ret (v := .tuple #[.agg #[.slice A1 n c1, .slice B1 m d1], .bool false]) ?_ rfl ?_
        · simp [results, Tryz.results9, go_sem]
          go_simp
        · rw [HG.out]
          exact ⟨_, _, _, _, _, _, rfl, gis_ret I3 _ _ _ _ (by omega) (by omega) (by omega), below_ret (below_then hB0 (Kept.be _)) _ _ _ (by omega)⟩
      · have HIX := Lib.hid (ixE_no hix)
        by_cases h12 : m = 12
        · have HG := hno (by simp [insOk, HLM.out, h12])
          subst h12
          clear hno hv hok hix
          go_wp2_with (first
            | (go_at_call 61; refine (l3Edge_any A B n c 12 d ⟨e0, e1, e2, e3⟩ _ (by omega)).mono ?_; rw [HOK.out]; rintro e w' ⟨rfl, hb⟩; obtain ⟨y4, rfl⟩ := Kept.of _ hb; clear hb)
            | (go_at_call 62; refine (specEdgeIx_rd _ (h.up (below_then hB0 (Kept.be _))) e0).mono ?_; rw [HIX.out]; rintro e w' ⟨rfl, hb⟩; obtain ⟨y5, rfl⟩ := Kept.of _ hb; clear hb)
            | (go_at_call 63; refine (l3Copy_is _ (h.up (below_then hB0 (Kept.be _)))).mono ?_; rintro e w' ⟨A1, c1, B1, d1, rfl, I3, hb3⟩; have hlo := hb3.size; have hla := (Kept.be y5).size; obtain ⟨y3, rfl⟩ := Kept.of _ hb3; clear hb3))
          refine bodyPost_ret (v := .tuple #[.agg #[.slice A1 n c1, .slice B1 12 d1], .bool false]) ?_ rfl ?_
          · simp [results, Tryz.results9, go_sem]
            go_simp
          · rw [HG.out]
            exact ⟨_, _, _, _, _, _, rfl, gis_ret I3 _ _ _ _ (by omega) (by omega) (by omega), below_ret (below_then hB0 (Kept.be _)) _ _ _ (by omega)⟩
        · have hix2 : ¬ ixN g.es e0 < m := by have := HLM.out; omega
          have HG := Lib.hid (insG_yes (g := g) (e := ⟨e0, e1, e2, e3⟩) (by simp [insOk, hv, hok, hix2, HLM.out, HLN.out, h12]))
          clear hix2
          have h12' : ((m : Int) == 12) = false := by simp; omega
          have hm12 : m ≤ 12 := by
            have h3 := hv
            simp only [validG, Bool.and_eq_true, decide_eq_true_eq] at h3
            have := h3.2
            have := HLM.out
            omega
          clear hno hv hok hix h12
          go_wp2_with (first
            | (go_at_call 61; refine (l3Edge_any A B n c m d ⟨e0, e1, e2, e3⟩ _ (by omega)).mono ?_; rw [HOK.out]; rintro e w' ⟨rfl, hb⟩; obtain ⟨y4, rfl⟩ := Kept.of _ hb; clear hb)
            | (go_at_call 62; refine (specEdgeIx_rd _ (h.up (below_then hB0 (Kept.be _))) e0).mono ?_; rw [HIX.out]; rintro e w' ⟨rfl, hb⟩; obtain ⟨y5, rfl⟩ := Kept.of _ hb; clear hb))
          clear HIX HOK
          have cB := kB ⟨w0, Below.refl _ _⟩
          have c0 := k0 ⟨w0, Below.refl _ _⟩
          have c1 := k1 ⟨w0, Below.refl _ _⟩
          have c2 := k2 ⟨w0, Below.refl _ _⟩
          have c3 := k3 ⟨w0, Below.refl _ _⟩
          dsimp only at cB c0 c1 c2 c3
          go_loopw [6] (fun i wr => ∃ k : Nat, k ≤ m ∧ i = .int .i64 k ∧ k ≤ insK g.es e0 ∧ ∃ z : Kept w0, wr = z.W) (fun i _ => m - (intOf i).toNat)
          case atStart => exact ⟨0, Nat.zero_le _, rfl, Nat.zero_le _, y5, rfl⟩
          case round =>
            obtain ⟨k, hk, rfl, hks, z, rfl⟩ := hrel
            by_cases hlt : k < m
            · obtain ⟨b, o, rfl, hbo, x, hx, cc, _, _, _⟩ := edge_at (h.up hB0).edges.rd HLM.out hlt
              have x0 := Kept.cell cc
              have hlt' : (k : Int) < m := by omega
              have hk0 : (0 : Int) ≤ (k : Int) := by omega
              obtain ⟨h1, h2⟩ := insK_step hx hks
              obtain ⟨xi, x_1, x_2, x_3⟩ := x
              dsimp only at x0 h1 h2
              clear cc hx hbo
              by_cases hid : xi < e0
              · have h2' := h2 hid
                clear h1 h2
                go_wp2_with fail
                refine wp_region_k2 (by kernel_rfl) (by kernel_rfl) ?_
                repeat (go_big_quiet_step (fail))
                refine wpQuiet_nil ?_
                intro _ hw'
                obtain ⟨z2, rfl⟩ := hw'
                go_wp2
                go_roundw
                case rel => exact ⟨k + 1, by omega, by go_num, h2', z2, rfl⟩
                case measure => simp [intOf]; omega
              · have HKK := Lib.hid (h1 hid)
                have hid' : decide (xi < e0) = false := by simp; omega
                clear h1 h2 hks
                go_wp2_with fail
                refine wp_region_k2 (by kernel_rfl) (by kernel_rfl) ?_
                repeat (go_big_quiet_step (fail))
                refine wpQuiet_nil ?_
                intro _ hw'
                obtain ⟨z2, rfl⟩ := hw'
                clear x0 hid hid'
                have hx2a : w.heap.size < z2.W.heap.size := by have := z2.be.size; omega
                have q1 : Small (0 + n) := small_of (by omega)
                have bA : Below z2.W.heap.size z2.W (z2.W.alloc (.cells #[] 3)) := (Below.refl _ _).alloc (Nat.le_refl _) _
                have oA := own_made (w := z2.W) (base := z2.W.heap.size) 3 1 (Nat.le_refl _)
                have rA := (h.up (below_then (below_then hB0 z2.be) bA)).ints.rd
                have sA := bA.size
                have kA2 := kA z2
                go_wp2_with (at_builtin; go_loud (refine fr_plain _ app_int (by decide) z2.W.heap.size (.tmp 50) (.tmp 52) rfl rfl _ rfl oA _ _ _ _ _ rfl rA (iv_one _) q1 sA ?_; intro v3 w3 O3 hb30; obtain ⟨A3, cA, rfl, _⟩ := own_form O3; have I30 := RIs.of O3 hn; have hb3 := below_then bA hb30; have hz3 := hb3.size))
                clear hb30 O3 bA oA rA sA kA2
                have hb4 : Below w3.heap.size w3 (w3.alloc (.cells #[.slice A3 n cA, .slice none 0 0] 27)) := (Below.refl _ _).alloc (Nat.le_refl _) _
                have X4 := Blk.new w3 27 #[.slice A3 n cA, .slice none 0 0]
                generalize (w3.alloc (.cells #[.slice A3 n cA, .slice none 0 0] 27)) = w4 at *
                have hbz := z2.be
                have hb04 : Below w0.heap.size w0 w4 := below_then (below_then hbz hb3) hb4
                have hB4 := below_then hB0 hb04
                have s04 := hb04.size
                have hz4 := X4.lt
                have hzz := z2.be.size
                have I40 := I30.below hb4
                have q2 : Small (0 + k) := small_of (by omega)
                have q3 : Small (k + 1) := small_of (by omega)
                have q4 : Small (k + 1 + (m - k)) := small_of (by omega)
                have rW := (h.up hB4).edges.rd
                have rE := reads_take rW (k := k) (by omega)
                rw [ecs_take] at rE
                obtain ⟨A1, hA1, rD⟩ := reads_cut0 rW (k := k) (by omega) hcap
                rw [ecs_drop] at rD
                have hkd : k ≤ d := by omega
                have hkm : (k : Int) ≤ (m : Int) := by omega
                have hk0 : (0 : Int) ≤ (k : Int) := by omega
                have LIM := fun w' (hb : Below w0.heap.size w0 w') => And.intro (cell_keep hb cB) (And.intro (cell_keep hb c0) (And.intro (cell_keep hb c1) (And.intro (cell_keep hb c2) (cell_keep hb c3))))
                have HL := Lib.hid LIM
                have VB := (Blk.new (w4.alloc (.cells #[] 29)) 29 #[.int .i64 e0, .int .i64 e1, .int .i64 e2, .int .i64 e3]).drew
                have VC := ((Blk.new w4 29 #[.int .i64 e0, .int .i64 e1, .int .i64 e2, .int .i64 e3]).alloc (.cells #[] 29)).drew
                have oEA := own_drew (own_made (w := w4) (base := w4.heap.size) 29 4 (Nat.le_refl _))
                have oEB := own_drew ((own_made (w := w4) (base := w4.heap.size) 29 4 (Nat.le_refl _)).alloc (.cells #[.int .i64 e0, .int .i64 e1, .int .i64 e2, .int .i64 e3] 29))
                have oEC := own_drew (own_made (w := w4.alloc (.cells #[.int .i64 e0, .int .i64 e1, .int .i64 e2, .int .i64 e3] 29)) (base := w4.heap.size) 29 4 (by simp))
                simp only [World.size_alloc] at VB VC oEA oEB oEC
                have h14 := ecs_one [⟨e0, e1, e2, e3⟩]
                clear rW LIM
                go_region_held3 (fun w' => w'.cell? ⟨w.heap.size, 1, none⟩ = some (.slice (some ⟨b, o, none⟩) m d) ∧ w'.cell? ⟨w.heap.size + 1, 0, none⟩ = some (.int .i64 e0) ∧ w'.cell? ⟨w.heap.size + 1, 1, none⟩ = some (.int .i64 e1) ∧ w'.cell? ⟨w.heap.size + 1, 2, none⟩ = some (.int .i64 e2) ∧ w'.cell? ⟨w.heap.size + 1, 3, none⟩ = some (.int .i64 e3)) (first | (refine HL.out _ ?_; repeat (first | exact hb04 | exact hb06 | exact hb07 | exact hb08 | with_reducible refine Below.drew ?_ | with_reducible refine Below.alloc ?_ (by first | omega | (simp <;> omega)) _ | with_reducible refine Below.setCell ?_ (by dsimp only; omega) _))) (first
                  | (refine ap_step _ app_edge (by decide) w4.heap.size (.tmp 63) (.tmp 67) rfl rfl _ _ _ rfl O7 _ _ _ _ _ rfl rD7 (ecs_one _) q4 hb7.size ?_; intro v8 w8 O8 hg8 hat8; clear hat8; have hb8 := below_grown_own hb7 O7 hg8 (Nat.le_refl _) hb7.size; obtain ⟨B8, d8, rfl, _⟩ := own_form O8; have hb08 := below_then hb04 hb8; have s08 := hb08.size; have s48 := hb8.size; have X8 := X4.below hb8 hz4; have x81 : w8.cell? ⟨w3.heap.size, 1, none⟩ = some (.slice none 0 0) := (by rw [X8.cell]; rfl); have x8f := X8.frozen 1)
                  | (refine ap_stepW _ app_edge (by decide) w4.heap.size (.tmp 60) (.tmp 62) rfl rfl _ k (ecs (g.es.take k)) rfl ?_ _ 1 1 (ecs [⟨e0, e1, e2, e3⟩]) rfl ?_ h14 q3 ?_ ?_; (focus (first | exact O6 | exact O6.alloc _)); (focus (first | exact blk_reads (n := 1) (size := 4) VE rfl | exact reads_newW (e := 29) (size := 4) (m := 1) #[.int .i64 e0, .int .i64 e1, .int .i64 e2, .int .i64 e3] rfl)); (focus (first | exact hb6.size | exact (hb6.alloc hb6.size _).size)); intro v7 w7 O7 hg7 hat7; clear hat7; have hb7 : Below w4.heap.size w4 w7 := (by first | exact below_grown_own hb6 O6 hg7 (Nat.le_refl _) hb6.size | exact below_grown_own (hb6.alloc hb6.size _) (O6.alloc _) hg7 (Nat.le_refl _) (hb6.alloc hb6.size _).size); obtain ⟨B7, d7, rfl, _⟩ := own_form O7; have rD7 := reads_up rD hb7; have hb07 := below_then hb04 hb7; have s07 := hb07.size; have s47 := hb7.size)
                  | (refine fr_step _ app_edge (by decide) w4.heap.size (.tmp 55) (.tmp 59) rfl rfl _ rfl ?_ _ _ _ _ _ rfl (reads_up rE ?_) (ecs_one _) q2 ?_ ?_; (focus (first | exact oEA | exact oEB | exact oEC)); (focus (repeat (first | exact Below.refl _ _ | with_reducible refine Below.drew ?_ | with_reducible refine Below.alloc ?_ (by first | omega | (simp <;> omega)) _))); (focus (first | omega | (simp <;> omega))); intro v6 w6 O6 hb60; have hb6 : Below w4.heap.size w4 w6 := below_then (by repeat (first | exact Below.refl _ _ | with_reducible refine Below.drew ?_ | with_reducible refine Below.alloc ?_ (by first | omega | (simp <;> omega)) _)) hb60; (try (have VE := VB.below hb60 VB.lt)); (try (have VE := VC.below hb60 VC.lt)); obtain ⟨B6, d6, rfl, _⟩ := own_form O6; have hb06 := below_then hb04 hb6; have s06 := hb06.size; have s46 := hb6.size))
                all_goals
                  have hB8 := below_then hB0 hb08
                  have XR8 := XR.below hb08 XR.lt
                  have I8 := (I40.below hb8).far (p := ⟨w3.heap.size, 1, none⟩) (fun q hq hqe => by have := I40.own.top q hq; simp at hqe; omega) (.slice B8 (k + 1 + (m - k)) d8)
                  rw [← ecs_append, ← ecs_append] at O8
                  have V8 := (RIs.of O8 (by omega)).setB (p := ⟨w3.heap.size, 1, none⟩) (by dsimp only; omega) (.slice B8 (k + 1 + (m - k)) d8)
                  have J8 : GIs (w8.setCell ⟨w3.heap.size, 1, none⟩ (.slice B8 (k + 1 + (m - k)) d8)) z2.W.heap.size w8.heap.size A3 n cA B8 (k + 1 + (m - k)) d8 (g.vs.map iv) (ecs (g.es.take k ++ [⟨e0, e1, e2, e3⟩] ++ g.es.drop k)) := ⟨I8.wide (Nat.le_refl _) (by omega), V8.wide (by omega) (Nat.le_refl _)⟩
                  have hB9 := hB8.setCell (p := ⟨w3.heap.size, 1, none⟩) (by dsimp only; omega) (.slice B8 (k + 1 + (m - k)) d8)
                  have R9 := XR8.far (p := ⟨w3.heap.size, 1, none⟩) (by dsimp only; omega) (.slice B8 (k + 1 + (m - k)) d8)
                  have x90 : (w8.setCell ⟨w3.heap.size, 1, none⟩ (.slice B8 (k + 1 + (m - k)) d8)).cell? ⟨w3.heap.size, 0, none⟩ = some (.slice A3 n cA) := by rw [(X8.set_ 1 _).cell]; rfl
                  have x91 : (w8.setCell ⟨w3.heap.size, 1, none⟩ (.slice B8 (k + 1 + (m - k)) d8)).cell? ⟨w3.heap.size, 1, none⟩ = some (.slice B8 (k + 1 + (m - k)) d8) := by rw [(X8.set_ 1 _).cell]; rfl
                  have r90 : (w8.setCell ⟨w3.heap.size, 1, none⟩ (.slice B8 (k + 1 + (m - k)) d8)).cell? ⟨w.heap.size + 1 + 1, 0, none⟩ = some (.slice none 0 0) := by rw [R9.cell]; rfl
                  have r91 : (w8.setCell ⟨w3.heap.size, 1, none⟩ (.slice B8 (k + 1 + (m - k)) d8)).cell? ⟨w.heap.size + 1 + 1, 1, none⟩ = some (.slice none 0 0) := by rw [R9.cell]; rfl
                  have f90 := R9.frozen 0
                  have f91 := R9.frozen 1
                  have hz9 : w8.heap.size = (w8.setCell ⟨w3.heap.size, 1, none⟩ (.slice B8 (k + 1 + (m - k)) d8)).heap.size := by simp
                  clear hg8 hb8 hb08 x81 x8f X8 O8 I8 V8 R9 XR8 hB8 O7 O6 hg7 hb7 hb6 hb60 hb06 hb07 rD7 oEA oEB oEC VB VC rE rD hA1 X4 I40
                  generalize w8.setCell ⟨w3.heap.size, 1, none⟩ (.slice B8 (k + 1 + (m - k)) d8) = w9 at *
                  have HZ := Lib.hid hz9
                  clear hz9
                  go_wp2_with fail
                  refine bodyPost_ret (v := .tuple #[.agg #[.slice A3 n cA, .slice B8 (k + 1 + (m - k)) d8], .bool true]) ?_ rfl ?_
                  · simp [results, Tryz.results9, go_sem]
                    go_simp
                  · rw [HG.out, HKK.out]
                    have hz9 := HZ.out
                    exact ⟨_, _, _, _, _, _, rfl, gis_ret J8 _ _ _ _ (by omega) (by omega) (by omega), below_ret hB9 _ _ _ (by omega)⟩
            · have HKK := Lib.hid (show insK g.es e0 = k by have := insK_le g.es e0; have := HLM.out; omega)
              have hlt' : ¬ (k : Int) < m := by omega
              have hdl : decide ((k : Int) < m) = false := by simp; omega
              clear hks
              go_wp2_with fail
              refine wp_region_k2 (by kernel_rfl) (by kernel_rfl) ?_
              repeat (go_big_quiet_step (fail))
              refine wpQuiet_nil ?_
              intro _ hw'
              obtain ⟨z2, rfl⟩ := hw'
              clear hlt' hdl
              have hx2a : w.heap.size < z2.W.heap.size := by have := z2.be.size; omega
              have q1 : Small (0 + n) := small_of (by omega)
              have bA : Below z2.W.heap.size z2.W (z2.W.alloc (.cells #[] 3)) := (Below.refl _ _).alloc (Nat.le_refl _) _
              have oA := own_made (w := z2.W) (base := z2.W.heap.size) 3 1 (Nat.le_refl _)
              have rA := (h.up (below_then (below_then hB0 z2.be) bA)).ints.rd
              have sA := bA.size
              have kA2 := kA z2
              go_wp2_with (at_builtin; go_loud (refine fr_plain _ app_int (by decide) z2.W.heap.size (.tmp 50) (.tmp 52) rfl rfl _ rfl oA _ _ _ _ _ rfl rA (iv_one _) q1 sA ?_; intro v3 w3 O3 hb30; obtain ⟨A3, cA, rfl, _⟩ := own_form O3; have I30 := RIs.of O3 hn; have hb3 := below_then bA hb30; have hz3 := hb3.size))
              clear hb30 O3 bA oA rA sA kA2
              have hb4 : Below w3.heap.size w3 (w3.alloc (.cells #[.slice A3 n cA, .slice none 0 0] 27)) := (Below.refl _ _).alloc (Nat.le_refl _) _
              have X4 := Blk.new w3 27 #[.slice A3 n cA, .slice none 0 0]
              generalize (w3.alloc (.cells #[.slice A3 n cA, .slice none 0 0] 27)) = w4 at *
              have hbz := z2.be
              have hb04 : Below w0.heap.size w0 w4 := below_then (below_then hbz hb3) hb4
              have hB4 := below_then hB0 hb04
              have s04 := hb04.size
              have hz4 := X4.lt
              have hzz := z2.be.size
              have I40 := I30.below hb4
              have q2 : Small (0 + k) := small_of (by omega)
              have q3 : Small (k + 1) := small_of (by omega)
              have q4 : Small (k + 1 + (m - k)) := small_of (by omega)
              have rW := (h.up hB4).edges.rd
              have rE := reads_take rW (k := k) (by omega)
              rw [ecs_take] at rE
              obtain ⟨A1, hA1, rD⟩ := reads_cutv rW (k := k) (by omega) hcap
              rw [ecs_drop] at rD
              have hkd : k ≤ d := by omega
              have hkm : (k : Int) ≤ (m : Int) := by omega
              have hk0 : (0 : Int) ≤ (k : Int) := by omega
              have LIM := fun w' (hb : Below w0.heap.size w0 w') => And.intro (cell_keep hb cB) (And.intro (cell_keep hb c0) (And.intro (cell_keep hb c1) (And.intro (cell_keep hb c2) (cell_keep hb c3))))
              have HL := Lib.hid LIM
              have VB := (Blk.new (w4.alloc (.cells #[] 29)) 29 #[.int .i64 e0, .int .i64 e1, .int .i64 e2, .int .i64 e3]).drew
              have VC := ((Blk.new w4 29 #[.int .i64 e0, .int .i64 e1, .int .i64 e2, .int .i64 e3]).alloc (.cells #[] 29)).drew
              have oEA := own_drew (own_made (w := w4) (base := w4.heap.size) 29 4 (Nat.le_refl _))
              have oEB := own_drew ((own_made (w := w4) (base := w4.heap.size) 29 4 (Nat.le_refl _)).alloc (.cells #[.int .i64 e0, .int .i64 e1, .int .i64 e2, .int .i64 e3] 29))
              have oEC := own_drew (own_made (w := w4.alloc (.cells #[.int .i64 e0, .int .i64 e1, .int .i64 e2, .int .i64 e3] 29)) (base := w4.heap.size) 29 4 (by simp))
              simp only [World.size_alloc] at VB VC oEA oEB oEC
              have h14 := ecs_one [⟨e0, e1, e2, e3⟩]
              clear rW LIM
              go_region_held3 (fun w' => w'.cell? ⟨w.heap.size, 1, none⟩ = some (.slice B m d) ∧ w'.cell? ⟨w.heap.size + 1, 0, none⟩ = some (.int .i64 e0) ∧ w'.cell? ⟨w.heap.size + 1, 1, none⟩ = some (.int .i64 e1) ∧ w'.cell? ⟨w.heap.size + 1, 2, none⟩ = some (.int .i64 e2) ∧ w'.cell? ⟨w.heap.size + 1, 3, none⟩ = some (.int .i64 e3)) (first | (refine HL.out _ ?_; repeat (first | exact hb04 | exact hb06 | exact hb07 | exact hb08 | with_reducible refine Below.drew ?_ | with_reducible refine Below.alloc ?_ (by first | omega | (simp <;> omega)) _ | with_reducible refine Below.setCell ?_ (by dsimp only; omega) _))) (first
                | (refine ap_step _ app_edge (by decide) w4.heap.size (.tmp 63) (.tmp 67) rfl rfl _ _ _ rfl O7 _ _ _ _ _ rfl rD7 (ecs_one _) q4 hb7.size ?_; intro v8 w8 O8 hg8 hat8; clear hat8; have hb8 := below_grown_own hb7 O7 hg8 (Nat.le_refl _) hb7.size; obtain ⟨B8, d8, rfl, _⟩ := own_form O8; have hb08 := below_then hb04 hb8; have s08 := hb08.size; have s48 := hb8.size; have X8 := X4.below hb8 hz4; have x81 : w8.cell? ⟨w3.heap.size, 1, none⟩ = some (.slice none 0 0) := (by rw [X8.cell]; rfl); have x8f := X8.frozen 1)
                | (refine ap_stepW _ app_edge (by decide) w4.heap.size (.tmp 60) (.tmp 62) rfl rfl _ k (ecs (g.es.take k)) rfl ?_ _ 1 1 (ecs [⟨e0, e1, e2, e3⟩]) rfl ?_ h14 q3 ?_ ?_; (focus (first | exact O6 | exact O6.alloc _)); (focus (first | exact blk_reads (n := 1) (size := 4) VE rfl | exact reads_newW (e := 29) (size := 4) (m := 1) #[.int .i64 e0, .int .i64 e1, .int .i64 e2, .int .i64 e3] rfl)); (focus (first | exact hb6.size | exact (hb6.alloc hb6.size _).size)); intro v7 w7 O7 hg7 hat7; clear hat7; have hb7 : Below w4.heap.size w4 w7 := (by first | exact below_grown_own hb6 O6 hg7 (Nat.le_refl _) hb6.size | exact below_grown_own (hb6.alloc hb6.size _) (O6.alloc _) hg7 (Nat.le_refl _) (hb6.alloc hb6.size _).size); obtain ⟨B7, d7, rfl, _⟩ := own_form O7; have rD7 := reads_up rD hb7; have hb07 := below_then hb04 hb7; have s07 := hb07.size; have s47 := hb7.size)
                | (refine fr_step _ app_edge (by decide) w4.heap.size (.tmp 55) (.tmp 59) rfl rfl _ rfl ?_ _ _ _ _ _ rfl (reads_up rE ?_) (ecs_one _) q2 ?_ ?_; (focus (first | exact oEA | exact oEB | exact oEC)); (focus (repeat (first | exact Below.refl _ _ | with_reducible refine Below.drew ?_ | with_reducible refine Below.alloc ?_ (by first | omega | (simp <;> omega)) _))); (focus (first | omega | (simp <;> omega))); intro v6 w6 O6 hb60; have hb6 : Below w4.heap.size w4 w6 := below_then (by repeat (first | exact Below.refl _ _ | with_reducible refine Below.drew ?_ | with_reducible refine Below.alloc ?_ (by first | omega | (simp <;> omega)) _)) hb60; (try (have VE := VB.below hb60 VB.lt)); (try (have VE := VC.below hb60 VC.lt)); obtain ⟨B6, d6, rfl, _⟩ := own_form O6; have hb06 := below_then hb04 hb6; have s06 := hb06.size; have s46 := hb6.size))
              all_goals
                have hB8 := below_then hB0 hb08
                have XR8 := XR.below hb08 XR.lt
                have I8 := (I40.below hb8).far (p := ⟨w3.heap.size, 1, none⟩) (fun q hq hqe => by have := I40.own.top q hq; simp at hqe; omega) (.slice B8 (k + 1 + (m - k)) d8)
                rw [← ecs_append, ← ecs_append] at O8
                have V8 := (RIs.of O8 (by omega)).setB (p := ⟨w3.heap.size, 1, none⟩) (by dsimp only; omega) (.slice B8 (k + 1 + (m - k)) d8)
                have J8 : GIs (w8.setCell ⟨w3.heap.size, 1, none⟩ (.slice B8 (k + 1 + (m - k)) d8)) z2.W.heap.size w8.heap.size A3 n cA B8 (k + 1 + (m - k)) d8 (g.vs.map iv) (ecs (g.es.take k ++ [⟨e0, e1, e2, e3⟩] ++ g.es.drop k)) := ⟨I8.wide (Nat.le_refl _) (by omega), V8.wide (by omega) (Nat.le_refl _)⟩
                have hB9 := hB8.setCell (p := ⟨w3.heap.size, 1, none⟩) (by dsimp only; omega) (.slice B8 (k + 1 + (m - k)) d8)
                have R9 := XR8.far (p := ⟨w3.heap.size, 1, none⟩) (by dsimp only; omega) (.slice B8 (k + 1 + (m - k)) d8)
                have x90 : (w8.setCell ⟨w3.heap.size, 1, none⟩ (.slice B8 (k + 1 + (m - k)) d8)).cell? ⟨w3.heap.size, 0, none⟩ = some (.slice A3 n cA) := by rw [(X8.set_ 1 _).cell]; rfl
                have x91 : (w8.setCell ⟨w3.heap.size, 1, none⟩ (.slice B8 (k + 1 + (m - k)) d8)).cell? ⟨w3.heap.size, 1, none⟩ = some (.slice B8 (k + 1 + (m - k)) d8) := by rw [(X8.set_ 1 _).cell]; rfl
                have r90 : (w8.setCell ⟨w3.heap.size, 1, none⟩ (.slice B8 (k + 1 + (m - k)) d8)).cell? ⟨w.heap.size + 1 + 1, 0, none⟩ = some (.slice none 0 0) := by rw [R9.cell]; rfl
                have r91 : (w8.setCell ⟨w3.heap.size, 1, none⟩ (.slice B8 (k + 1 + (m - k)) d8)).cell? ⟨w.heap.size + 1 + 1, 1, none⟩ = some (.slice none 0 0) := by rw [R9.cell]; rfl
                have f90 := R9.frozen 0
                have f91 := R9.frozen 1
                have hz9 : w8.heap.size = (w8.setCell ⟨w3.heap.size, 1, none⟩ (.slice B8 (k + 1 + (m - k)) d8)).heap.size := by simp
                clear hg8 hb8 hb08 x81 x8f X8 O8 I8 V8 R9 XR8 hB8 O7 O6 hg7 hb7 hb6 hb60 hb06 hb07 rD7 oEA oEB oEC VB VC rE rD hA1 X4 I40
                generalize w8.setCell ⟨w3.heap.size, 1, none⟩ (.slice B8 (k + 1 + (m - k)) d8) = w9 at *
                have HZ := Lib.hid hz9
                clear hz9
                go_wp2_with fail
                refine bodyPost_ret (v := .tuple #[.agg #[.slice A3 n cA, .slice B8 (k + 1 + (m - k)) d8], .bool true]) ?_ rfl ?_
                · simp [results, Tryz.results9, go_sem]
                  go_simp
                · rw [HG.out, HKK.out]
                  have hz9 := HZ.out
                  exact ⟨_, _, _, _, _, _, rfl, gis_ret J8 _ _ _ _ (by omega) (by omega) (by omega), below_ret hB9 _ _ _ (by omega)⟩
end Go.Proofs.YtljggmgijadjaaaGreatDoor
