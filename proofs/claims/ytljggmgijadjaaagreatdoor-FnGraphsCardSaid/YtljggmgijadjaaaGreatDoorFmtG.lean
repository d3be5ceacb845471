/- FormatGraph of both packages. -/
import Derived.Test.YtljggmgijadjaaaGreatDoorFmtE
import Derived.Test.YtljggmgijadjaaaGreatDoorFmtW
namespace Go.Proofs.YtljggmgijadjaaaGreatDoor
open Go.RowKit Go.ChangeShapes Go.WideShapes Go.ChangeAt Go.Deep
set_option linter.unusedVariables false
def fmtV (xs : List Int) : List UInt8 := xs.flatMap Lib.itoa
def fmtEs (es : List E) : List UInt8 := es.flatMap (fun e => 32 :: fmtE e)
theorem fmtV_len : ∀ (xs : List Int), (∀ v ∈ xs, 0 ≤ v ∧ v ≤ 2) → (fmtV xs).length ≤ 10 * xs.length
  | [], _ => by simp [fmtV]
  | x :: r, h => by
    have h1 := fmtV_len r (fun v hv => h v (by simp [hv]))
    have h2 := h x (by simp)
    have h3 := itoa_len9 (n := x) (by omega) (by omega)
    simp only [fmtV, List.flatMap_cons, List.length_append, List.length_cons] at h1 ⊢
    omega
theorem fmtEs_len : ∀ (es : List E), (fmtEs es).length ≤ 17 * es.length
  | [] => by simp [fmtEs]
  | x :: r => by
    have h1 := fmtEs_len r
    have h3 := fmtE_len x
    simp only [fmtEs, List.flatMap_cons, List.length_append, List.length_cons] at h1 ⊢
    omega
theorem fmtV_take {xs : List Int} {k : Nat} {x : Int} (h : xs[k]? = some x) : fmtV (xs.take (k + 1)) = fmtV (xs.take k) ++ Lib.itoa x := by
  rw [List.take_add_one, h]
  simp [fmtV]
theorem fmtEs_take {es : List E} {k : Nat} {x : E} (h : es[k]? = some x) : fmtEs (es.take (k + 1)) = fmtEs (es.take k) ++ 32 :: fmtE x := by
  rw [List.take_add_one, h]
  simp [fmtEs]
theorem ba_of (S : ByteArray) (l : List UInt8) (h : S.data.toList = l) : S = ⟨l.toArray⟩ := ba_ext h
theorem mk_size (l : List UInt8) : (⟨l.toArray⟩ : ByteArray).size = l.length := by rw [Lib.size_eq]
set_option maxRecDepth 4000 in
set_option maxHeartbeats 2000000 in
theorem implFormatGraph_is (w : World) {A B : Option Addr} {n c m d : Nat} {g : G} (h : GRd w A n B m g) (T : TabP w) :
    Calls Tryz.prog 14 #[.agg #[.slice A n c, .slice B m d]] w fun e w' => e = .returned (.string ⟨(fmtG g).toArray⟩) ∧ Below w.heap.size w w' := by
  have HB : Below w.heap.size w (w.alloc (.cells #[.slice A n c, .slice B m d] 27)) := (Below.refl _ _).alloc (Nat.le_refl _) _
  have XB := Blk.new w 27 #[.slice A n c, .slice B m d]
  have h0 := h.up HB
  have T0 := T.up HB
  obtain ⟨ok, hok⟩ : ∃ ok, validG g = ok := ⟨_, rfl⟩
  have HOK := Lib.hid hok
  have HLN := Lib.hid h.gr.ln
  have HLM := Lib.hid h.gr.lm
  have hn := h.bn
  have hm := h.bm
  have HC : RowKit.Hid (∀ W : Kept (w.alloc (.cells #[.slice A n c, .slice B m d] 27)), Calls Tryz.prog 13 #[.agg #[.slice A n c, .slice B m d]] W.W fun e w' => e = .returned (.bool ok) ∧ Below W.W.heap.size W.W w') := Lib.hid (fun W => by rw [← hok]; exact implValid_any A B n c m d g W.W (h0.up W.be).gr hn hm)
  have k0 := XB.kc (v := .slice A n c) 0 rfl
  have k1 := XB.kc (v := .slice B m d) 1 rfl
  clear hok XB
  generalize hw0 : w.alloc (.cells #[.slice A n c, .slice B m d] 27) = w0 at *
  obtain ⟨y0, hy0⟩ : ∃ y : Kept w0, w0 = y.W := ⟨⟨w0, Below.refl _ _⟩, rfl⟩
  have hw := hw0.trans hy0
  clear hw0 hy0
  go_enter Tryz.func14, Tryz.ntmps14
  go_wp2_with fail
  refine (HC.out _).mono ?_
  rintro e w1 ⟨rfl, hb1⟩
  obtain ⟨y1, rfl⟩ := y0.of hb1
  clear hb1 hw
  cases ok
  · have hE : fmtG g = [] := by unfold fmtG; rw [if_neg (by simp [HOK.out])]
    have HE := Lib.hid hE
    have hB1 := below_then HB y1.be
    clear hE
    go_wp2
    go_ret
    exact ⟨by rw [HE.out] <;> rfl, hB1⟩
  · have hv := validG_iff HOK.out
    have hE : fmtG g = fmtV g.vs ++ fmtEs g.es := by unfold fmtG; rw [if_pos HOK.out]; rfl
    have HE := Lib.hid hE
    have HVB := Lib.hid hv.1
    have hn5 : n ≤ 5 := by have := HLN.out; omega
    have hm12 : m ≤ 12 := by have := HLM.out; omega
    have HVL : RowKit.Hid (∀ k, (fmtV (g.vs.take k)).length ≤ 50) := Lib.hid (fun k => by
      have h1 := fmtV_len (g.vs.take k) (fun v hvm => hv.1 v (List.mem_of_mem_take hvm))
      rw [List.length_take] at h1
      omega)
    have HEL : RowKit.Hid (∀ k, (fmtEs (g.es.take k)).length ≤ 204) := Lib.hid (fun k => by
      have h1 := fmtEs_len (g.es.take k)
      rw [List.length_take] at h1
      omega)
    clear hE hv
    go_wp2
    go_loopw [3, 14] (fun v i wr => ∃ (k : Nat) (z : Kept w0) (S : ByteArray), wr = z.W ∧ k ≤ n ∧ i = .int .i64 k ∧ v = .string S ∧ S.data.toList = fmtV (g.vs.take k)) (fun _ i _ => n - (intOf i).toNat)
    case atStart => exact ⟨0, y1, ⟨#[]⟩, rfl, Nat.zero_le _, rfl, rfl, rfl⟩
    case round =>
      obtain ⟨k, z, S, rfl, hk, rfl, rfl, hS⟩ := hrel
      have hSl : S.size ≤ 50 := by rw [Lib.size_eq, hS]; exact HVL.out k
      have HS := Lib.hid hS
      clear hS
      by_cases hlt : k < n
      · obtain ⟨b, o, x, rfl, had, hx, hc⟩ := h0.ints.at_ hlt
        have hc' := Kept.cell hc
        have hxb := HVB.out x (List.mem_of_getElem? hx)
        have hlt' : (k : Int) < n := by omega
        have hk0 : (0 : Int) ≤ (k : Int) := by omega
        have HT := Lib.hid (fmtV_take hx)
        obtain ⟨J, hJ⟩ : ∃ J : ByteArray, (⟨(Lib.itoa x).toArray⟩ : ByteArray) = J := ⟨_, rfl⟩
        have hJl : J.size ≤ 10 := by rw [← hJ, mk_size]; exact itoa_len9 (by omega) (by omega)
        have HJ : RowKit.Hid (J.data.toList = Lib.itoa x) := Lib.hid (by rw [← hJ])
        have HI : RowKit.Hid (∀ W : Kept w0, Calls Tryz.prog 70 #[.int .i64 x] W.W fun r w' => r = .returned (.string J) ∧ Below W.W.heap.size W.W w') := Lib.hid (fun W => by rw [← hJ]; exact implFormatInt_any W.W (T0.kept W) x ⟨by omega, by omega⟩)
        have g1 : ¬ 9223372036854775807 < S.size + J.size := by omega
        clear hx hc hJ
        go_wp2_with fail
        refine (HI.out _).mono ?_
        rintro r w6 ⟨rfl, hb6⟩
        obtain ⟨z6, rfl⟩ := z.of hb6
        clear hb6
        go_wp2_with fail
        go_roundw
        case rel => exact ⟨k + 1, z6, _, rfl, by omega, by go_num, rfl, by rw [HT.out, ← HS.out, ← HJ.out, ByteArray.data_append, Array.toList_append]⟩
        case measure => simp [intOf]; omega
      · obtain rfl : k = n := by omega
        have hlt' : ¬ (k : Int) < k := by omega
        have hS2 := HS.out
        rw [List.take_of_length_le (by have := HLN.out; omega)] at hS2
        have HS2 := Lib.hid hS2
        clear hS2 HS
        go_wp2
        go_loopw [3, 26] (fun v i wr => ∃ (k : Nat) (z : Kept w0) (S : ByteArray), wr = z.W ∧ k ≤ m ∧ i = .int .i64 k ∧ v = .string S ∧ S.data.toList = fmtV g.vs ++ fmtEs (g.es.take k)) (fun _ i _ => m - (intOf i).toNat)
        case atStart => exact ⟨0, z, S, rfl, Nat.zero_le _, rfl, rfl, by rw [HS2.out]; simp [fmtEs]⟩
        case round =>
          clear hSl HS2
          obtain ⟨k, z, S, rfl, hk, rfl, rfl, hS⟩ := hrel
          have hSl : S.size ≤ 300 := by
            have h1 := HVL.out g.vs.length
            have h2 := HEL.out k
            rw [List.take_length] at h1
            rw [Lib.size_eq, hS, List.length_append]
            omega
          have HS := Lib.hid hS
          clear hS
          by_cases hlt : k < m
          · obtain ⟨b, o, rfl, had, e, he, c0, c1, c2, c3⟩ := edge_at h0.gr.re h0.gr.lm hlt
            have c0' := Kept.cell c0
            have c1' := Kept.cell c1
            have c2' := Kept.cell c2
            have c3' := Kept.cell c3
            have hlt' : (k : Int) < m := by omega
            have hk0 : (0 : Int) ≤ (k : Int) := by omega
            have HT := Lib.hid (fmtEs_take he)
            obtain ⟨J, hJ⟩ : ∃ J : ByteArray, (⟨(fmtE e).toArray⟩ : ByteArray) = J := ⟨_, rfl⟩
            have hJl : J.size ≤ 16 := by rw [← hJ, mk_size]; exact fmtE_len e
            have HJ : RowKit.Hid (J.data.toList = fmtE e) := Lib.hid (by rw [← hJ])
            have HI : RowKit.Hid (∀ W : Kept w0, Calls Tryz.prog 19 #[.agg #[.int .i64 e.id, .int .i64 e.fr, .int .i64 e.to, .int .i64 e.lb]] W.W fun r w' => r = .returned (.string J) ∧ Below W.W.heap.size W.W w') := Lib.hid (fun W => by rw [← hJ]; exact implFormatEdge_any W.W (T0.kept W) e)
            have g1 : ¬ 9223372036854775807 < 1 + J.size := by omega
            have g2 : ¬ 9223372036854775807 < S.size + (1 + J.size) := by omega
            clear he c0 c1 c2 c3 hJ
            obtain ⟨z5, hz5⟩ := z.of ((Below.refl z.W.heap.size z.W).alloc (Nat.le_refl _) (.cells #[.int .i64 e.id, .int .i64 e.fr, .int .i64 e.to, .int .i64 e.lb] 29))
            have X5 := Blk.new z.W 29 #[.int .i64 e.id, .int .i64 e.fr, .int .i64 e.to, .int .i64 e.lb]
            rw [hz5] at X5
            have p0 := X5.cell 0
            have p1 := X5.cell 1
            have p2 := X5.cell 2
            have p3 := X5.cell 3
            go_wp2_with fail
            refine (HI.out _).mono ?_
            rintro r w6 ⟨rfl, hb6⟩
            obtain ⟨z6, rfl⟩ := z5.of hb6
            clear hb6
            go_wp2_with fail
            go_roundw
            case rel => exact ⟨k + 1, z6, _, rfl, by omega, by go_num, rfl, by rw [HT.out, ← List.append_assoc, ← HS.out, ← HJ.out]; simp⟩
            case measure => simp [intOf]; omega
          · obtain rfl : k = m := by omega
            have hlt' : ¬ (k : Int) < k := by omega
            have hS3 := HS.out
            rw [List.take_of_length_le (by have := HLM.out; omega), ← HE.out] at hS3
            have HS3 := Lib.hid (ba_of S _ hS3)
            have hB1 := below_then HB z.be
            clear hS3 HS
            go_wp2
            go_ret
            exact ⟨by rw [HS3.out] <;> rfl, hB1⟩
end Go.Proofs.YtljggmgijadjaaaGreatDoor
