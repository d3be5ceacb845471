/- Rows of structs, said once for every element type; steps: toStep, toStepS, eqStep, eqStepS, markStepS, heldStepS. -/
import Derived.Test.YtcnbgpelfkbmpaaDoorGMark2
import Derived.Test.YtcnbgpelfkbmpaaDoorArgs
namespace Go.Proofs.YtcnbgpelfkbmpaaDoor
open Go.RowKit Go.ChangeShapes Go.WideShapes Go.ChangeAt Go.Deep
set_option linter.unusedVariables false

theorem elem_at {α : Type} {f : α → List Value} {size : Nat} (hf : ∀ a, (f a).length = size) (hs : 0 < size) {w : World} {B n k : Nat} {A : Option Addr} {l : List α} (h : Reads w B size A n (l.flatMap f)) (hl : l.length = n) (hk : k < n) :
    ∃ b o, A = some ⟨b, o, none⟩ ∧ b < B ∧ ∃ a, l[k]? = some a ∧ ∀ j u, (f a)[j]? = some u → w.cell? ⟨b, o + k * size + j, none⟩ = some u := by
  obtain ⟨b, o, hA, hb, hc⟩ := row_at h (by omega) hs
  have hkl : k < l.length := by omega
  refine ⟨b, o, hA, hb, l[k], List.getElem?_eq_getElem hkl, fun j u hj => ?_⟩
  have hjs : j < size := by
    have := (List.getElem?_eq_some_iff.1 hj).1
    rw [hf] at this
    exact this
  have h1 := flatMap_at f size hf l k j hkl hjs
  rw [hj] at h1
  have := hc _ _ h1
  rwa [← Nat.add_assoc] at this
theorem flatMap_get {α : Type} {f : α → List Value} {size : Nat} (hf : ∀ a, (f a).length = size) {l : List α} {k j : Nat} {a : α} {u : Value} (hk : l[k]? = some a) (hj : (f a)[j]? = some u) : (l.flatMap f)[k * size + j]? = some u := by
  obtain ⟨hkl, rfl⟩ := List.getElem?_eq_some_iff.1 hk
  have hjs : j < size := by
    have := (List.getElem?_eq_some_iff.1 hj).1
    rw [hf] at this
    exact this
  rw [flatMap_at f size hf l k j hkl hjs, hj]
theorem own2 {w : World} {base g n cap k : Nat} {e : TypeId} {R L : List Value} {u0 u1 : Value} (h : w.ownsRow base e 2 (.slice (some ⟨g, 0, none⟩) n cap) n (R.take (k * 2) ++ L.drop (k * 2))) (hL : L.length = R.length)
    (h0 : R[k * 2]? = some u0) (h1 : R[k * 2 + 1]? = some u1) :
    ((w.setCell ⟨g, k * 2, none⟩ u0).setCell ⟨g, k * 2 + 1, none⟩ u1).ownsRow base e 2 (.slice (some ⟨g, 0, none⟩) n cap) n (R.take ((k + 1) * 2) ++ L.drop ((k + 1) * 2)) := by
  obtain ⟨k0, e0⟩ := get_of_some h0
  obtain ⟨k1, e1⟩ := get_of_some h1
  have s0 := (h.stored (k * 2) u0).1
  rw [set_take L R _ _ k0 hL e0] at s0
  have s1 := (s0.stored (k * 2 + 1) u1).1
  rw [set_take L R _ _ k1 hL e1] at s1
  have hk : (k + 1) * 2 = k * 2 + 1 + 1 := by omega
  rw [hk]
  exact s1
theorem own5 {w : World} {base g n cap k : Nat} {e : TypeId} {R L : List Value} {u0 u1 u2 u3 u4 : Value} (h : w.ownsRow base e 5 (.slice (some ⟨g, 0, none⟩) n cap) n (R.take (k * 5) ++ L.drop (k * 5))) (hL : L.length = R.length)
    (h0 : R[k * 5]? = some u0) (h1 : R[k * 5 + 1]? = some u1) (h2 : R[k * 5 + 2]? = some u2) (h3 : R[k * 5 + 3]? = some u3) (h4 : R[k * 5 + 4]? = some u4) :
    (((((w.setCell ⟨g, k * 5, none⟩ u0).setCell ⟨g, k * 5 + 1, none⟩ u1).setCell ⟨g, k * 5 + 2, none⟩ u2).setCell ⟨g, k * 5 + 3, none⟩ u3).setCell ⟨g, k * 5 + 4, none⟩ u4).ownsRow base e 5 (.slice (some ⟨g, 0, none⟩) n cap) n (R.take ((k + 1) * 5) ++ L.drop ((k + 1) * 5)) := by
  obtain ⟨k0, e0⟩ := get_of_some h0
  obtain ⟨k1, e1⟩ := get_of_some h1
  obtain ⟨k2, e2⟩ := get_of_some h2
  obtain ⟨k3, e3⟩ := get_of_some h3
  obtain ⟨k4, e4⟩ := get_of_some h4
  have s0 := (h.stored (k * 5) u0).1
  rw [set_take L R _ _ k0 hL e0] at s0
  have s1 := (s0.stored (k * 5 + 1) u1).1
  rw [set_take L R _ _ k1 hL e1] at s1
  have s2 := (s1.stored (k * 5 + 2) u2).1
  rw [set_take L R _ _ k2 hL e2] at s2
  have s3 := (s2.stored (k * 5 + 3) u3).1
  rw [set_take L R _ _ k3 hL e3] at s3
  have s4 := (s3.stored (k * 5 + 4) u4).1
  rw [set_take L R _ _ k4 hL e4] at s4
  have hk : (k + 1) * 5 = k * 5 + 4 + 1 := by omega
  rw [hk]
  exact s4
theorem flatMap_one_cell {α : Type} {f : α → List Value} (hf : ∀ a, ∀ u ∈ f a, u.oneCell' = true) (l : List α) : ∀ u ∈ l.flatMap f, u.oneCell' = true := by
  intro u hu
  obtain ⟨a, _, ha⟩ := List.mem_flatMap.1 hu
  exact hf a u ha

/-! ### steps -/
structure St where
  ed : Int
  inv : Bool
deriving DecidableEq
def stc (s : St) : List Value := [.int .i64 s.ed, .bool s.inv]
def stcs (l : List St) : List Value := l.flatMap stc
theorem stc_len (s : St) : (stc s).length = 2 := rfl
theorem stcs_len (l : List St) : (stcs l).length = l.length * 2 := flatMap_len stc 2 stc_len l
theorem stcs_append (a b : List St) : stcs (a ++ b) = stcs a ++ stcs b := by simp [stcs]
theorem stcs_one (l : List St) : ∀ u ∈ stcs l, u.oneCell' = true := by
  refine flatMap_one_cell (fun s u hu => ?_) l
  simp [stc] at hu
  rcases hu with rfl | rfl <;> rfl
theorem app_step : AppTy Tryd.prog 43 113 (.agg #[.int .i64 0, .bool false]) 2 16 := ⟨Tryd.underlying43, by kernel_rfl, rfl, by decide⟩
theorem step_at {w : World} {B n k : Nat} {A : Option Addr} {l : List St} (h : Reads w B 2 A n (stcs l)) (hl : l.length = n) (hk : k < n) :
    ∃ b o, A = some ⟨b, o, none⟩ ∧ b < B ∧ ∃ s, l[k]? = some s ∧ w.cell? ⟨b, o + k * 2, none⟩ = some (.int .i64 s.ed) ∧ w.cell? ⟨b, o + k * 2 + 1, none⟩ = some (.bool s.inv) := by
  obtain ⟨b, o, hA, hb, s, hs, hc⟩ := elem_at stc_len (by decide) h hl hk
  exact ⟨b, o, hA, hb, s, hs, hc 0 _ rfl, hc 1 _ rfl⟩
set_option maxRecDepth 4000 in
theorem toStep_any (s : St) (w : World) : Calls Tryd.prog 133 #[.agg #[.int .i64 s.ed, .bool s.inv]] w fun r w' => r = .returned (.agg #[.int .i64 s.ed, .bool s.inv]) ∧ Below w.heap.size w w' := by
  obtain ⟨a, b⟩ := s
  go_enter Tryd.func133, Tryd.ntmps133
  go_wp2
  exact bodyPost_ret (v := .agg #[.int .i64 a, .bool b]) (by simp [results, Tryd.results133, go_sem]) rfl ⟨rfl, by repeat (first | exact Below.refl _ _ | refine Below.alloc ?_ (by first | exact Nat.le_refl _ | (simp only [World.size_alloc]; omega)) _)⟩
set_option maxRecDepth 4000 in
set_option maxHeartbeats 400000 in
theorem toStepS_any (A : Option Addr) (n c : Nat) (es : List St) (w : World) (hl : es.length = n) (hn : n ≤ 2000000) (hr : Reads w w.heap.size 2 A n (stcs es)) :
    Calls Tryd.prog 95 #[.slice A n c] w fun e w' => e = .returned (.slice (some ⟨w.heap.size, 0, none⟩) n n) ∧ w'.ownsRow w.heap.size 113 2 (.slice (some ⟨w.heap.size, 0, none⟩) n n) n (stcs es) ∧ Below w.heap.size w w' := by
  have hmk := make_eq (P := Tryd.prog) app_step (by decide) n (small_of (by omega))
  go_enter Tryd.func95, Tryd.ntmps95
  go_wp2
  clear hmk
  go_loopw [4] (fun i wr => ∃ k : Nat, k ≤ n ∧ i = .int .i64 k ∧ wr.ownsRow w.heap.size 113 2 (.slice (some ⟨w.heap.size, 0, none⟩) n n) n ((stcs es).take (k * 2) ++ (zrow (.agg #[.int .i64 0, .bool false]) (n * 2)).toList.drop (k * 2)) ∧ Below w.heap.size w wr)
    (fun i _ => n - (intOf i).toNat)
  case atStart =>
    refine ⟨0, Nat.zero_le _, rfl, ?_, (Below.refl _ _).alloc (Nat.le_refl _) _⟩
    have h := own_zrow (e := 113) (size := 2) (n := n) (W := w) (.agg #[.int .i64 0, .bool false]) (Nat.le_refl _) (small_of (by omega))
    simpa using h
  case round =>
    obtain ⟨k, hk, rfl, hown, hbel⟩ := hrel
    by_cases hlt : k < n
    · obtain ⟨b, o, rfl, had, e, he, c0, c1⟩ := step_at hr hl hlt
      have d0 := (hbel.cell (p := ⟨b, o + k * 2, none⟩) had).trans c0
      have d1 := (hbel.cell (p := ⟨b, o + k * 2 + 1, none⟩) had).trans c1
      clear c0 c1
      go_wp2_with fail
      refine (toStep_any e _).mono ?_
      rintro r w1 ⟨rfl, hb1⟩
      have ho1 := own_below hown hb1 (Nat.le_refl _)
      have hbb := below_then hbel hb1
      have f0 := ho1.frozenAt (k * 2)
      have f1 := ho1.frozenAt (k * 2 + 1)
      obtain ⟨z0, g0⟩ := own_some ho1 (k * 2) (by omega)
      obtain ⟨z1, g1⟩ := own_some ho1 (k * 2 + 1) (by omega)
      have q0 := flatMap_get stc_len (j := 0) he rfl
      have q1 := flatMap_get stc_len (j := 1) he rfl
      have HS := Lib.hid (own2 (L := (zrow (.agg #[.int .i64 0, .bool false]) (n * 2)).toList) ho1 (by rw [stcs_len, Array.length_toList, zrow_size, hl]) q0 q1)
      clear q0 q1 he
      go_wp2
      go_roundw
      case rel => exact ⟨k + 1, by omega, by go_num, HS.out, (hbb.setCell (Nat.le_refl _) _).setCell (Nat.le_refl _) _⟩
      case measure => simp [intOf]; omega
    · obtain rfl : k = n := by omega
      have hz : ((zrow (.agg #[.int .i64 0, .bool false]) (k * 2)).toList.drop (k * 2)) = [] := List.drop_of_length_le (by rw [Array.length_toList, zrow_size]; exact Nat.le_refl _)
      rw [hz, List.take_of_length_le (by rw [stcs_len]; omega), List.append_nil] at hown
      clear hz
      go_wp2
      go_ret
      exact ⟨rfl, hown, hbel⟩
set_option maxRecDepth 4000 in
theorem eqStep_same (s : St) (w : World) : Calls Tryd.prog 134 #[.agg #[.int .i64 s.ed, .bool s.inv], .agg #[.int .i64 s.ed, .bool s.inv]] w fun r w' => r = .returned (.bool true) ∧ Below w.heap.size w w' := by
  obtain ⟨a, b⟩ := s
  have hb : (b != b) = false := by simp
  go_enter Tryd.func134, Tryd.ntmps134
  go_wp2
  go_ret
  exact ⟨rfl, ((Below.refl _ _).alloc (Nat.le_refl _) _).alloc (by simp) _⟩
set_option maxRecDepth 4000 in
set_option maxHeartbeats 800000 in
theorem eqStepS_same (A B : Option Addr) (n c d : Nat) (es : List St) (w : World) (hl : es.length = n) (hn : n ≤ 2000000) (hr : Reads w w.heap.size 2 A n (stcs es)) (hr2 : Reads w w.heap.size 2 B n (stcs es)) :
    Calls Tryd.prog 96 #[.slice A n c, .slice B n d] w fun e w' => e = .returned (.bool true) ∧ Below w.heap.size w w' := by
  have hnn : ((n : Int) != n) = false := by simp
  go_enter Tryd.func96, Tryd.ntmps96
  go_wp2
  clear hnn
  go_loopw [5] (fun i wr => ∃ k : Nat, k ≤ n ∧ i = .int .i64 k ∧ Below w.heap.size w wr) (fun i _ => n - (intOf i).toNat)
  case atStart => exact ⟨0, Nat.zero_le _, rfl, Below.refl _ _⟩
  case round =>
    obtain ⟨k, hk, rfl, hbel⟩ := hrel
    by_cases hlt : k < n
    · obtain ⟨b, o, rfl, had, e, he, c0, c1⟩ := step_at (hr.below hbel) hl hlt
      obtain ⟨b2, o2, rfl, had2, e2, he2, d0, d1⟩ := step_at (hr2.below hbel) hl hlt
      obtain rfl : e = e2 := by rw [he] at he2; simpa using he2
      clear he he2
      have hlt' : (k : Int) < n := by omega
      have hk0 : (0 : Int) ≤ (k : Int) := by omega
      go_wp2
      go_still_tail 8, (by kernel_rfl)
      change wpList _ _ _ _ _ wr.drew
      have hbel2 : Below w.heap.size w wr.drew := hbel.drew
      generalize wr.drew = w2 at *
      go_wp2_with (go_at_call 134; refine (eqStep_same _ _).mono ?_; rintro r w3 ⟨rfl, hb3⟩)
      go_roundw
      case rel => exact ⟨k + 1, by omega, by go_num, hbel2.trans (hb3.mono hbel2.size)⟩
      case measure => simp [intOf]; omega
    · go_wp2
      go_ret
      exact ⟨rfl, hbel⟩
end Go.Proofs.YtcnbgpelfkbmpaaDoor
