/- StepsWith of both packages. -/
import Derived.Test.YtljggmgijadjaaaStepsF
namespace Go.Proofs.Ytljggmgijadjaaa
open Go.RowKit Go.ChangeShapes Go.WideShapes Go.ChangeAt Go.Deep
set_option linter.unusedVariables false
/-- The block of a row that grows: in [lo, hi), or new since w. -/
def OB (lo hi z : Nat) (v : Value) : Prop := ∀ g, v.ownBlock = some g → (lo ≤ g ∧ g < hi) ∨ z ≤ g
theorem OB.next {lo hi z s : Nat} {v v' : Value} (h : OB lo hi z v) (hat : v'.ownBlock = v.ownBlock ∨ v'.ownBlock = some s) (hz : z ≤ s) : OB lo hi z v' := by
  intro g hg
  rcases hat with h1 | h1
  · exact h g (by rw [← h1, hg])
  · rw [hg] at h1
    injection h1 with h1
    omega
def stepsW (g : G) (node letter : Int) : List St := (stepsF g node).filter (fun s => stLet g s == letter)
theorem filter_succ {α : Type} (p : α → Bool) {L : List α} {k : Nat} {x : α} (h : L[k]? = some x) : (L.take (k + 1)).filter p = (L.take k).filter p ++ (if p x then [x] else []) := by
  obtain ⟨hk, rfl⟩ := List.getElem?_eq_some_iff.1 h
  rw [List.take_succ_eq_append_getElem hk, List.filter_append]
  simp [List.filter_cons]
theorem filter_take_len {α : Type} (p : α → Bool) (L : List α) (k : Nat) : ((L.take k).filter p).length ≤ k := Nat.le_trans (List.length_filter_le _ _) (List.length_take_le _ _)
set_option maxRecDepth 4000 in
set_option maxHeartbeats 2000000 in
theorem implStepsWith_is (w : World) {A B : Option Addr} {n c m d : Nat} {g : G} (h : GRd w A n B m g) (node letter : Int) :
    Calls Try.prog 14 #[.agg #[.slice A n c, .slice B m d], .int .i64 node, .int .i64 letter] w fun e w' => ∃ A2 n2 c2, e = .returned (.slice A2 n2 c2) ∧ RIs w' w.heap.size w'.heap.size 33 2 A2 n2 c2 (stcs (stepsW g node letter)) ∧ Below w.heap.size w w' := by
  have hW : stepsW g node letter = (stepsF g node).filter (fun s => stLet g s == letter) := rfl
  obtain ⟨L, hL⟩ : ∃ L, stepsF g node = L := ⟨_, rfl⟩
  have hp : ∀ L : List St, ∀ k, ((L.take k).filter (fun s => stLet g s == letter)).length ≤ k := fun L k => filter_take_len _ _ _
  rw [hL] at hW
  have HL := Lib.hid hL
  obtain ⟨p, hpp⟩ : ∃ p : St → Bool, (fun s => stLet g s == letter) = p := ⟨_, rfl⟩
  rw [hpp] at hW
  simp only [hpp] at hp
  have HPP := Lib.hid (fun s => congrFun hpp s)
  have HP := Lib.hid hp
  have HW := Lib.hid hW
  clear hW hL hp hpp
  have hB0 : Below w.heap.size w ((w.alloc (.cells #[.slice A n c, .slice B m d] 27)).alloc (.cells #[] 33)) := ((Below.refl _ _).alloc (Nat.le_refl _) _).alloc (by simp) _
  have kA : ((w.alloc (.cells #[.slice A n c, .slice B m d] 27)).alloc (.cells #[] 33)).cell? ⟨w.heap.size, 0, none⟩ = some (.slice A n c) := by go_simp
  have kB : ((w.alloc (.cells #[.slice A n c, .slice B m d] 27)).alloc (.cells #[] 33)).cell? ⟨w.heap.size, 1, none⟩ = some (.slice B m d) := by go_simp
  have ho := own_made (w := w.alloc (.cells #[.slice A n c, .slice B m d] 27)) (base := w.heap.size) 33 2 (by simp)
  simp only [World.size_alloc] at ho
  have hz0 : w.heap.size + 2 ≤ ((w.alloc (.cells #[.slice A n c, .slice B m d] 27)).alloc (.cells #[] 33)).heap.size := by simp
  go_enter Try.func14, Try.ntmps14
  go_wp2_with fail
  generalize ((w.alloc (.cells #[.slice A n c, .slice B m d] 27)).alloc (.cells #[] 33)) = w0 at *
  refine (implStepsFrom_is _ (h.up hB0) node).mono ?_
  rw [HL.out]
  rintro r w2 ⟨A2, n2, c2, rfl, O, hb2⟩
  have hB2 := below_then hB0 hb2
  have kA2 := cell_keep hb2 kA
  have kB2 := cell_keep hb2 kB
  have ho2 := own_below ho hb2 (Nat.le_refl _)
  have hz2 : w.heap.size + 2 ≤ w2.heap.size := Nat.le_trans hz0 hb2.size
  have hn2 := O.bd
  have HLN := Lib.hid O.srd.ln
  clear kA kB ho hb2
  go_wp2_with fail
  go_loopw [7, 15] (fun v i wr => ∃ (k : Nat), k ≤ n2 ∧ i = .int .i64 k ∧ wr.ownsRow w.heap.size 33 2 v ((L.take k).filter p).length (stcs ((L.take k).filter p)) ∧ OB (w.heap.size + 1) (w.heap.size + 2) w2.heap.size v ∧ Tch (w.heap.size + 1) (w.heap.size + 2) w2 wr) (fun _ i _ => n2 - (intOf i).toNat)
  case atStart => exact ⟨0, Nat.zero_le _, rfl, ho2, fun g hg => by simp [Value.ownBlock] at hg; omega, Tch.refl _ _ _⟩
  case round =>
    obtain ⟨k, hk, rfl, hown, hob, t⟩ := hrel
    have hzr := t.size
    have hBr := below_tch hB2 t (by omega)
    have kAr := cell_tch t kA2 (.inl (by dsimp only; omega))
    have kBr := cell_tch t kB2 (.inl (by dsimp only; omega))
    by_cases hlt : k < n2
    · have Or := O.tch t (.inr (by omega))
      obtain ⟨b, o, rfl, had, s, hs, c0, c1⟩ := step_at Or.reads HLN.out hlt
      have hsucc := filter_succ p hs
      have hlen := HP.out L k
      have q3 : Small (((L.take k).filter p).length + 1) := small_of (by omega)
      obtain ⟨F, hF⟩ : ∃ F, (L.take k).filter p = F := ⟨_, rfl⟩
      rw [hF] at hown q3 hsucc
      have HSUC := Lib.hid hsucc
      have hps := HPP.out s
      clear hF hsucc hlen hs
      obtain ⟨se, si⟩ := s
      dsimp only at c0 c1
      have hbE : Below wr.heap.size wr (wr.alloc (.cells #[.int .i64 se, .bool si] 33)) := (Below.refl _ _).alloc (Nat.le_refl _) _
      have kAE := cell_keep hbE kAr
      have kBE := cell_keep hbE kBr
      have x0 : (wr.alloc (.cells #[.int .i64 se, .bool si] 33)).cell? ⟨wr.heap.size, 0, none⟩ = some (.int .i64 se) := by go_simp
      have x1 : (wr.alloc (.cells #[.int .i64 se, .bool si] 33)).cell? ⟨wr.heap.size, 1, none⟩ = some (.bool si) := by go_simp
      have hoE := own_below hown hbE (Nat.le_refl _)
      have tE := t.below hbE
      have hBE := below_then hBr hbE
      have hzE : wr.heap.size < (wr.alloc (.cells #[.int .i64 se, .bool si] 33)).heap.size := by simp
      have HPS := Lib.hid hps
      clear hps hown t hBr
      go_wp2_with fail
      generalize hx : wr.heap.size = x at *
      clear hx
      generalize (wr.alloc (.cells #[.int .i64 se, .bool si] 33)) = w3 at *
      refine (implStepLetter_is _ (h.up hBE) ⟨se, si⟩).mono ?_
      rintro r w4 ⟨rfl, hb4⟩
      have ho4 := own_below hoE hb4 (Nat.le_refl _)
      have t4 := tE.below hb4
      have hB4 := below_then hBE hb4
      have x04 := cell_keep hb4 x0
      have x14 := cell_keep hb4 x1
      have hz4 : w2.heap.size ≤ w4.heap.size := t4.size
      obtain ⟨z, hz⟩ : ∃ z, stLet g ⟨se, si⟩ = z := ⟨_, rfl⟩
      have hps := HPS.out
      rw [hz] at hps ⊢
      have HZ := Lib.hid hz
      have h14 := stcs_one [St.mk se si]
      clear hz HPS kAE kBE hoE tE hBE x0 x1 hb4
      cases hq : (z == letter)
      · have hE : (L.take (k + 1)).filter p = F := by rw [HSUC.out, ← hps, hq]; simp
        have HE := Lib.hid hE
        clear hps hE
        go_wp2
        go_roundw
        case rel => exact ⟨k + 1, by omega, by go_num, by rw [HE.out]; exact ho4, hob, t4⟩
        case measure => simp [intOf]; omega
      · have hE : (L.take (k + 1)).filter p = F ++ [⟨se, si⟩] := by rw [HSUC.out, ← hps, hq]; simp
        have HE := Lib.hid hE
        clear hps hE
        go_wp2_with (at_builtin; refine ap_plain _ app_step (by decide) w.heap.size (.tmp 24) (.tmp 26) rfl rfl _ _ _ rfl (ho4.alloc _) _ _ 1 1 _ rfl (reads_new _ rfl) h14 q3 (Nat.le_trans hB4.size (by simp)) ?_; intro v5 w5 hown5 hg5 hat5; have t5 := (t4.alloc _).grown2 hg5 hob; have hob5 := hob.next hat5 (Nat.le_trans hz4 (by simp)); replace hown5 := own_snoc_st (St.mk se si) rfl hown5; clear hg5 hat5)
        go_roundw
        case rel => exact ⟨k + 1, by omega, by go_num, by rw [HE.out]; simpa using hown5, hob5, t5⟩
        case measure => simp [intOf]; omega
    · obtain rfl : k = n2 := by omega
      obtain ⟨A5, c5, rfl, _⟩ := own_form hown
      have hlen := HP.out L k
      have hown' := RIs.of hown (by omega)
      rw [List.take_of_length_le (by have := HLN.out; omega)] at hown'
      rw [List.take_of_length_le (by have := HLN.out; omega)]
      rw [← HW.out] at hown' ⊢
      clear hlen
      go_wp2
      go_ret
      exact ⟨_, _, _, rfl, hown', hBr⟩
theorem step_cells {w : World} {B b o n k : Nat} {es : List St} {e : St} (h : Reads w B 2 (some ⟨b, o, none⟩) n (stcs es)) (he : es[k]? = some e) : w.cell? ⟨b, o + k * 2, none⟩ = some (.int .i64 e.ed) ∧ w.cell? ⟨b, o + k * 2 + 1, none⟩ = some (.bool e.inv) := by
  have hk := (List.getElem?_eq_some_iff.1 he).1
  have hl : es.length = n := by have := h.1; rw [stcs_len] at this; omega
  obtain ⟨b2, o2, hA, _, e2, he2, c0, c1⟩ := step_at (k := k) h hl (by omega)
  have hbo : b = b2 ∧ o = o2 := by simpa using hA
  obtain ⟨rfl, rfl⟩ := hbo
  obtain rfl : e = e2 := by rw [he] at he2; simpa using he2
  exact ⟨c0, c1⟩
end Go.Proofs.Ytljggmgijadjaaa
