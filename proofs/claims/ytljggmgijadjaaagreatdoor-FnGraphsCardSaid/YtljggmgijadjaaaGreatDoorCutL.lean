/- A text cut at every instance of one byte: plain facts, no program: cutL, and that strings.Split's list and strings.Cut's parts are told by it. -/
import Derived.Lib.SplitLaws
import Derived.Test.YtljggmgijadjaaaGreatDoorBaseA
namespace Go.Proofs.YtljggmgijadjaaaGreatDoor
open Go.RowKit Go.ChangeShapes Go.WideShapes Go.ChangeAt Go.Deep
set_option linter.unusedVariables false
def cutL (c : UInt8) : List UInt8 → List (List UInt8)
  | [] => [[]]
  | b :: l => if b = c then [] :: cutL c l else match cutL c l with
    | h :: t => (b :: h) :: t
    | [] => [[b]]
theorem cutL_ne (c : UInt8) : ∀ l, cutL c l ≠ []
  | [] => by simp [cutL]
  | b :: l => by
    unfold cutL
    split
    · simp
    · split <;> simp
theorem cutL_cons_eq (c : UInt8) (l : List UInt8) : cutL c (c :: l) = [] :: cutL c l := by simp [cutL]
theorem cutL_cons_ne {b c : UInt8} {l h : List UInt8} {t : List (List UInt8)} (hb : b ≠ c) (hl : cutL c l = h :: t) : cutL c (b :: l) = (b :: h) :: t := by simp [cutL, hb, hl]
theorem cutL_hit (c : UInt8) (r : List UInt8) : ∀ (p : List UInt8), c ∉ p → cutL c (p ++ c :: r) = p :: cutL c r
  | [], _ => by simp [cutL]
  | b :: p, h => by
    have ih := cutL_hit c r p (fun hm => h (by simp [hm]))
    exact cutL_cons_ne (fun e => h (by simp [e])) ih
theorem cutL_miss (c : UInt8) : ∀ (p : List UInt8), c ∉ p → cutL c p = [p]
  | [], _ => by simp [cutL]
  | b :: p, h => by
    have ih := cutL_miss c p (fun hm => h (by simp [hm]))
    exact cutL_cons_ne (fun e => h (by simp [e])) ih
/-- Every text is its pieces, the byte between them. -/
def glue (c : UInt8) : List (List UInt8) → List UInt8
  | [] => []
  | x :: r => x ++ r.flatMap (fun y => c :: y)
theorem cutL_glue (c : UInt8) : ∀ l, glue c (cutL c l) = l
  | [] => by simp [cutL, glue]
  | b :: l => by
    have ih := cutL_glue c l
    cases hl : cutL c l with
    | nil => exact absurd hl (cutL_ne c l)
    | cons h t =>
      rw [hl] at ih
      by_cases hb : b = c
      · subst hb
        rw [cutL_cons_eq, hl]
        simp only [glue, List.flatMap_cons, List.nil_append] at ih ⊢
        simpa using ih
      · rw [cutL_cons_ne hb hl]
        simp only [glue] at ih ⊢
        simpa using ih
theorem cutL_of_glue (c : UInt8) : ∀ (r : List (List UInt8)) (x : List UInt8), c ∉ x → (∀ y ∈ r, c ∉ y) → cutL c (glue c (x :: r)) = x :: r
  | [], x, hx, _ => by simpa [glue] using cutL_miss c x hx
  | y :: r, x, hx, hr => by
    have ih := cutL_of_glue c r y (hr y (by simp)) (fun z hz => hr z (by simp [hz]))
    have : glue c (x :: y :: r) = x ++ c :: glue c (y :: r) := by simp [glue, List.flatMap_cons]
    rw [this, cutL_hit c _ x hx, ih]
theorem cutL_not_mem (c : UInt8) : ∀ l, ∀ p ∈ cutL c l, c ∉ p
  | [], p, hp => by simp [cutL] at hp; subst hp; simp
  | b :: l, p, hp => by
    have ih := cutL_not_mem c l
    cases hl : cutL c l with
    | nil => exact absurd hl (cutL_ne c l)
    | cons h t =>
      rw [hl] at ih
      by_cases hb : b = c
      · subst hb
        rw [cutL_cons_eq, hl] at hp
        rcases List.mem_cons.1 hp with rfl | hp
        · simp
        · exact ih p hp
      · rw [cutL_cons_ne hb hl] at hp
        rcases List.mem_cons.1 hp with rfl | hp
        · have := ih h (by simp)
          intro hm
          rcases List.mem_cons.1 hm with rfl | hm
          · exact hb rfl
          · exact this hm
        · exact ih p (by simp [hp])
theorem cutL_len (c : UInt8) : ∀ l, (cutL c l).length = l.count c + 1
  | [] => by simp [cutL]
  | b :: l => by
    have ih := cutL_len c l
    by_cases hb : b = c
    · subst hb
      rw [cutL_cons_eq, List.length_cons, ih, List.count_cons_self]
    · cases hl : cutL c l with
      | nil => exact absurd hl (cutL_ne c l)
      | cons h t =>
        rw [cutL_cons_ne hb hl, List.count_cons_of_ne (by simpa using hb)]
        rw [hl] at ih
        simpa using ih
theorem index_one_cons (b c : UInt8) (l : List UInt8) (h : b ≠ c) : Lib.index (b :: l) [c] = if Lib.index l [c] == -1 then -1 else Lib.index l [c] + 1 := by
  have hp : ([c] : List UInt8).isPrefixOf (b :: l) = false := by simp [List.isPrefixOf, Ne.symm h]
  rw [Lib.index, hp]; simp
theorem index_one_eq (c : UInt8) (l : List UInt8) : Lib.index (c :: l) [c] = 0 := by rw [Lib.index]; simp [List.isPrefixOf]
theorem splitK_cutL (c : UInt8) : ∀ s : List UInt8, Lib.splitK [c] 0 (s.count c) s = cutL c s
  | [] => by simp [Lib.splitK, cutL]
  | b :: l => by
    have ih := splitK_cutL c l
    by_cases hb : b = c
    · subst hb
      rw [List.count_cons_self, cutL_cons_eq, ← ih]
      simp [Lib.splitK, index_one_eq]
    · rw [List.count_cons_of_ne (by simpa using hb)]
      cases hk : l.count c with
      | zero =>
        rw [hk] at ih
        simp only [Lib.splitK] at ih ⊢
        exact (cutL_cons_ne hb ih.symm).symm
      | succ k =>
        rw [hk] at ih
        have hm : Lib.index l [c] ≠ -1 := fun e => by
          have := Lib.count_miss e
          rw [Lib.count_one] at this
          omega
        have hge := Lib.index_ge l [c]
        obtain ⟨j, hj⟩ : ∃ j : Nat, Lib.index l [c] = j := ⟨(Lib.index l [c]).toNat, by omega⟩
        have hj1 : Lib.index (b :: l) [c] = ((j + 1 : Nat) : Int) := by
          rw [index_one_cons b c l hb, hj, if_neg (by rw [beq_iff_eq]; omega)]
          omega
        have e1 : ¬ (((j + 1 : Nat) : Int) == -1) = true := by rw [beq_iff_eq]; omega
        have e2 : ¬ (((j : Nat) : Int) == -1) = true := by rw [beq_iff_eq]; omega
        simp only [Lib.splitK, hj1, hj, if_neg e1, if_neg e2] at ih ⊢
        rw [cutL_cons_ne hb ih.symm]
        simp
theorem splitB_cutL (c : UInt8) (s : ByteArray) : (Lib.splitB ⟨#[c]⟩ 0 (Lib.countB s ⟨#[c]⟩) s).map (·.data.toList) = cutL c s.data.toList := by
  rw [Lib.splitB_data, Lib.countB, show ((⟨#[c]⟩ : ByteArray).data.toList) = [c] from rfl, Lib.count_one, splitK_cutL]
/-- strings.Cut at one byte. -/
theorem cut_one (c : UInt8) : ∀ (l : List UInt8), Lib.cut l [c] = match cutL c l with
    | [] => (l, [], false)
    | [x] => (x, [], false)
    | x :: y :: r => (x, glue c (y :: r), true) := by
  intro l
  have hg := cutL_glue c l
  have hn := cutL_not_mem c l
  have key : ∀ (x r : List UInt8), c ∉ x → Lib.index (x ++ c :: r) [c] = x.length := by
    intro x r
    induction x with
    | nil => intro _; exact index_one_eq c r
    | cons b x ih =>
      intro h
      have := ih (fun hm => h (by simp [hm]))
      rw [List.cons_append, index_one_cons b c _ (fun e => h (by simp [e])), this, if_neg (by rw [beq_iff_eq]; omega)]
      simp
  have miss : ∀ (x : List UInt8), c ∉ x → Lib.index x [c] = -1 := by
    intro x
    induction x with
    | nil => intro _; simp [Lib.index]
    | cons b x ih =>
      intro h
      have := ih (fun hm => h (by simp [hm]))
      rw [index_one_cons b c _ (fun e => h (by simp [e])), this]
      rfl
  cases hl : cutL c l with
  | nil => exact absurd hl (cutL_ne c l)
  | cons x t =>
    rw [hl] at hg hn
    have hx := hn x (by simp)
    cases t with
    | nil =>
      simp [glue] at hg
      subst hg
      simp only [Lib.cut, miss x hx]
      rfl
    | cons y r =>
      have hg' : l = x ++ c :: glue c (y :: r) := by rw [← hg]; simp [glue, List.flatMap_cons]
      rw [hg']
      simp only [Lib.cut, key x _ hx]
      rw [if_pos (by omega)]
      simp
end Go.Proofs.YtljggmgijadjaaaGreatDoor
