/- Texts merged by program: Dec, CutL, EdP, Tab. -/
import Derived.Lib.Atoi
import Derived.Lib.AtoiErr
import Derived.Lib.AtoiBound
import Derived.Lib.ItoaLen
import Derived.Test.YtomkgnamjfiocaaGreatDoorBaseA
import Derived.Lib.SplitLaws
import Derived.Lib.Join
import Derived.Lib.LaidTab
import Derived.Lib.ItoaNum
import Derived.Stop.LaidErr
import Derived.Shelf.Vars
import Derived.Test.YtomkgnamjfiocaaGreatDoorRows
namespace Go.Proofs.YtomkgnamjfiocaaGreatDoor
open Go.RowKit Go.ChangeShapes Go.WideShapes Go.ChangeAt Go.Deep
set_option linter.unusedVariables false
theorem dec_small {u : Nat} (h : u < 10) : Lib.decDigits u = [UInt8.ofNat (48 + u)] := by rw [Lib.decDigits, dif_pos h]
theorem dec_big {u : Nat} (h : ¬ u < 10) : Lib.decDigits u = Lib.decDigits (u / 10) ++ [UInt8.ofNat (48 + u % 10)] := by rw [Lib.decDigits, dif_neg h]
/-- The digits of what is left of a number from which digits were taken at its end. -/
def tailDec (v : Nat) : List UInt8 := if v = 0 then [] else Lib.decDigits v
theorem tailDec_step {v : Nat} (h : v ≠ 0) : tailDec v = tailDec (v / 10) ++ [UInt8.ofNat (48 + v % 10)] := by
  unfold tailDec
  rw [if_neg h]
  by_cases h10 : v < 10
  · rw [if_pos (by omega), dec_small h10, Nat.mod_eq_of_lt h10]; rfl
  · rw [if_neg (by omega), dec_big h10]
theorem digitVal_dig {k : Nat} (h : k < 10) : Lib.digitVal (UInt8.ofNat (48 + k)) = some k := by
  have : k = 0 ∨ k = 1 ∨ k = 2 ∨ k = 3 ∨ k = 4 ∨ k = 5 ∨ k = 6 ∨ k = 7 ∨ k = 8 ∨ k = 9 := by omega
  rcases this with rfl | rfl | rfl | rfl | rfl | rfl | rfl | rfl | rfl | rfl <;> rfl
theorem decFrom_append : ∀ (a b : List UInt8) (acc : Nat), Lib.decFrom acc (a ++ b) = (Lib.decFrom acc a).bind fun m => Lib.decFrom m b
  | [], b, acc => by simp [Lib.decFrom]
  | x :: a, b, acc => by
    simp only [List.cons_append, Lib.decFrom]
    cases Lib.digitVal x with
    | none => rfl
    | some d => exact decFrom_append a b _
theorem decFrom_dec (u : Nat) : Lib.decFrom 0 (Lib.decDigits u) = some u := by
  induction u using Nat.strongRecOn with
  | _ u ih =>
    by_cases h : u < 10
    · rw [dec_small h]
      simp only [Lib.decFrom, digitVal_dig h, Nat.zero_mul, Nat.zero_add]
    · rw [dec_big h, decFrom_append, ih (u / 10) (by omega)]
      simp only [Option.bind_some, Lib.decFrom, digitVal_dig (show u % 10 < 10 by omega)]
      congr 1
      omega
theorem dec_ne (u : Nat) : Lib.decDigits u ≠ [] := by
  intro h
  have := Lib.decDigits_length u
  rw [h] at this
  have := Lib.nDigits_pos u
  simp at *
  omega
theorem dec_digit {u : Nat} {b : UInt8} (h : b ∈ Lib.decDigits u) : 48 ≤ b.toNat ∧ b.toNat ≤ 57 := by
  obtain ⟨k, hk⟩ := List.mem_iff_getElem?.1 h
  obtain ⟨d, hd⟩ := Lib.digit_of_decFrom _ _ _ (decFrom_dec u) k b hk
  have := Lib.digitVal_eq hd
  omega
theorem decNat_dec (u : Nat) : Lib.decNat (Lib.decDigits u) = some u := by
  unfold Lib.decNat
  rw [if_neg (by simp [dec_ne u]), decFrom_dec]
theorem itoa_cases (n : Int) : (∃ u : Nat, n = u ∧ Lib.itoa n = Lib.decDigits u) ∨ (∃ u : Nat, 1 ≤ u ∧ n = -(u : Int) ∧ Lib.itoa n = 45 :: Lib.decDigits u) := by
  by_cases h : n < 0
  · obtain ⟨u, rfl⟩ : ∃ u : Nat, n = -(u : Int) := ⟨n.natAbs, by omega⟩
    exact Or.inr ⟨u, by omega, rfl, Lib.itoa_neg u (by omega)⟩
  · obtain ⟨u, rfl⟩ : ∃ u : Nat, n = u := ⟨n.toNat, by omega⟩
    exact Or.inl ⟨u, rfl, Lib.itoa_nonneg u⟩
theorem atoi_itoa (n : Int) : Lib.atoi (Lib.itoa n) = some n := by
  rcases itoa_cases n with ⟨u, rfl, h⟩ | ⟨u, hu, rfl, h⟩
  · rw [h]
    cases hd : Lib.decDigits u with
    | nil => exact absurd hd (dec_ne u)
    | cons b r =>
      have hb := dec_digit (u := u) (b := b) (by rw [hd]; simp)
      have h45 : (b == 45) = false := beq_eq_false_iff_ne.2 (by rintro rfl; simp at hb)
      have h43 : (b == 43) = false := beq_eq_false_iff_ne.2 (by rintro rfl; simp at hb)
      have := decNat_dec u
      rw [hd] at this
      simp [Lib.atoi, h45, h43, this]
  · rw [h]
    simp [Lib.atoi, decNat_dec u]
theorem itoa_inj {m n : Int} (h : Lib.itoa m = Lib.itoa n) : m = n := by
  have h1 := atoi_itoa m
  rw [h, atoi_itoa n] at h1
  exact (Option.some.inj h1).symm
theorem nDigits_le_of_lt : ∀ (k u : Nat), 1 ≤ k → u < 10 ^ k → Lib.nDigits u ≤ k
  | 0, u, h, _ => by omega
  | k + 1, u, _, h => by
    by_cases h10 : u < 10
    · rw [Lib.nDigits_small h10]; omega
    · rw [Lib.nDigits_big h10]
      rw [Nat.pow_succ] at h
      have hk : 1 ≤ k := by
        rcases Nat.eq_zero_or_pos k with rfl | hk
        · simp at h; omega
        · exact hk
      have := nDigits_le_of_lt k (u / 10) hk (by omega)
      omega
theorem itoa_len9 {n : Int} (h0 : -999999999 ≤ n) (h1 : n ≤ 999999999) : (Lib.itoa n).length ≤ 10 := by
  rcases itoa_cases n with ⟨u, rfl, h⟩ | ⟨u, hu, rfl, h⟩
  · rw [h, Lib.decDigits_length]
    have := nDigits_le_of_lt 9 u (by omega) (by omega)
    omega
  · rw [h, List.length_cons, Lib.decDigits_length]
    have := nDigits_le_of_lt 9 u (by omega) (by omega)
    omega

/-- What ParseInt reads. -/
def prsI (l : List UInt8) : Option Int := match Lib.atoi l with
  | some n => if Lib.itoa n = l ∧ -999999999 ≤ n ∧ n ≤ 999999999 then some n else none
  | none => none
theorem prsI_itoa {n : Int} (h0 : -999999999 ≤ n) (h1 : n ≤ 999999999) : prsI (Lib.itoa n) = some n := by
  unfold prsI
  rw [atoi_itoa]
  simp [h0, h1]
theorem prsI_some {l : List UInt8} {n : Int} (h : prsI l = some n) : l = Lib.itoa n ∧ -999999999 ≤ n ∧ n ≤ 999999999 := by
  unfold prsI at h
  cases ha : Lib.atoi l with
  | none => rw [ha] at h; cases h
  | some m =>
    rw [ha] at h
    simp only at h
    split at h
    · rename_i hc
      injection h with h
      subst h
      exact ⟨hc.1.symm, hc.2⟩
    · cases h
theorem prsI_len {l : List UInt8} (h : 10 < l.length) : prsI l = none := by
  cases hp : prsI l with
  | none => rfl
  | some n =>
    obtain ⟨h1, h2, h3⟩ := prsI_some hp
    have := itoa_len9 h2 h3
    rw [← h1] at this
    omega
/-- The reference's loop: the number that the digits among l spell, and how many they are. -/
def dgStep (p : Nat × Nat) (b : UInt8) : Nat × Nat := match Lib.digitVal b with
  | some d => (p.1 * 10 + d, p.2 + 1)
  | none => p
def dgs (l : List UInt8) : Nat × Nat := l.foldl dgStep (0, 0)
theorem dgs_snoc (l : List UInt8) (b : UInt8) : dgs (l ++ [b]) = dgStep (dgs l) b := by simp [dgs]
theorem dgs_lt (l : List UInt8) : (dgs l).1 < 10 ^ (dgs l).2 ∧ (dgs l).2 ≤ l.length := by
  have key : ∀ (l : List UInt8) (p : Nat × Nat), p.1 < 10 ^ p.2 → (l.foldl dgStep p).1 < 10 ^ (l.foldl dgStep p).2 ∧ (l.foldl dgStep p).2 ≤ p.2 + l.length := by
    intro l
    induction l with
    | nil => intro p h; exact ⟨h, by simp⟩
    | cons b l ih =>
      intro p h
      have h2 : (dgStep p b).1 < 10 ^ (dgStep p b).2 ∧ (dgStep p b).2 ≤ p.2 + 1 := by
        unfold dgStep
        cases hd : Lib.digitVal b with
        | none => exact ⟨h, by simp⟩
        | some d =>
          have := Lib.digitVal_eq hd
          refine ⟨?_, by simp⟩
          simp only
          rw [Nat.pow_succ]
          omega
      obtain ⟨a, c⟩ := ih _ h2.1
      refine ⟨a, ?_⟩
      simp only [List.foldl_cons, List.length_cons]
      omega
  have := key l (0, 0) (by simp)
  simpa [dgs] using this
theorem dgs_dec (l : List UInt8) : ∀ (acc m : Nat) (q : Nat), Lib.decFrom acc l = some m → l.foldl dgStep (acc, q) = (m, q + l.length) := by
  induction l with
  | nil => intro acc m q h; simp only [Lib.decFrom, Option.some.injEq] at h; subst h; rfl
  | cons b l ih =>
    intro acc m q h
    simp only [Lib.decFrom] at h
    cases hd : Lib.digitVal b with
    | none => rw [hd] at h; cases h
    | some d =>
      rw [hd] at h
      simp only [List.foldl_cons, dgStep, hd]
      rw [ih _ _ _ h]
      simp
      omega
/-- The number that the reference holds against the text. -/
def dgVal (l : List UInt8) : Int := if l.head? = some 45 then -((dgs l).1 : Int) else ((dgs l).1 : Int)
theorem spec_prsI (l : List UInt8) (hl : l.length ≤ 10) (hk : (dgs l).2 ≤ 9) : prsI l = if Lib.itoa (dgVal l) = l then some (dgVal l) else none := by
  have h9 : (dgs l).1 < 1000000000 := by
    have h1 := (dgs_lt l).1
    have h2 := Nat.pow_le_pow_right (n := 10) (by decide) hk
    have e : (10 : Nat) ^ 9 = 1000000000 := by decide
    omega
  have hb : -999999999 ≤ dgVal l ∧ dgVal l ≤ 999999999 := by unfold dgVal; split <;> omega
  by_cases he : Lib.itoa (dgVal l) = l
  · rw [if_pos he]
    have := prsI_itoa hb.1 hb.2
    rwa [he] at this
  · rw [if_neg he]
    cases hp : prsI l with
    | none => rfl
    | some n =>
      exfalso
      obtain ⟨h1, h2, h3⟩ := prsI_some hp
      apply he
      have : dgVal l = n := by
        rw [h1]
        rcases itoa_cases n with ⟨u, rfl, h⟩ | ⟨u, hu, rfl, h⟩
        · rw [h]
          have hd := dgs_dec _ 0 u 0 (decFrom_dec u)
          unfold dgVal dgs
          rw [hd, if_neg]
          intro hh
          have : (45 : UInt8) ∈ Lib.decDigits u := by
            cases hx : Lib.decDigits u with
            | nil => rw [hx] at hh; simp at hh
            | cons b r => rw [hx] at hh; simp at hh; subst hh; simp
          have := dec_digit this
          simp at this
        · rw [h]
          have hd := dgs_dec _ 0 u 0 (decFrom_dec u)
          unfold dgVal dgs
          rw [if_pos (by simp), List.foldl_cons, show dgStep (0, 0) 45 = (0, 0) from rfl, hd]
      rw [this, ← h1]
theorem spec_prsI_many (l : List UInt8) (hk : ¬ (dgs l).2 ≤ 9) : prsI l = none := by
  cases hp : prsI l with
  | none => rfl
  | some n =>
    exfalso
    obtain ⟨h1, h2, h3⟩ := prsI_some hp
    apply hk
    rw [h1]
    rcases itoa_cases n with ⟨u, rfl, h⟩ | ⟨u, hu, rfl, h⟩
    · rw [h]
      have hd := dgs_dec _ 0 u 0 (decFrom_dec u)
      unfold dgs
      rw [hd, Lib.decDigits_length]
      have := nDigits_le_of_lt 9 u (by omega) (by omega)
      simpa using this
    · rw [h]
      have hd := dgs_dec _ 0 u 0 (decFrom_dec u)
      unfold dgs
      rw [List.foldl_cons, show dgStep (0, 0) 45 = (0, 0) from rfl, hd, Lib.decDigits_length]
      have := nDigits_le_of_lt 9 u (by omega) (by omega)
      simpa using this
end Go.Proofs.YtomkgnamjfiocaaGreatDoor
namespace Go.Proofs.YtomkgnamjfiocaaGreatDoor
open Go.RowKit Go.ChangeShapes Go.WideShapes Go.ChangeAt Go.Deep
set_option linter.unusedVariables false
def cutL (c : UInt8) : List UInt8 → List (List UInt8)
  | [] => [[]]
  | b :: l => if b = c then [] :: cutL c l else match cutL c l with
    | h :: t => (b :: h) :: t
    | [] => [[b]]
theorem cutL_ne (c : UInt8) : ∀ l, cutL c l ≠ []
  | [] => by simp [cutL]
  | b :: l => by
    unfold cutL
    split
    · simp
    · split <;> simp
theorem cutL_cons_eq (c : UInt8) (l : List UInt8) : cutL c (c :: l) = [] :: cutL c l := by simp [cutL]
theorem cutL_cons_ne {b c : UInt8} {l h : List UInt8} {t : List (List UInt8)} (hb : b ≠ c) (hl : cutL c l = h :: t) : cutL c (b :: l) = (b :: h) :: t := by simp [cutL, hb, hl]
theorem cutL_hit (c : UInt8) (r : List UInt8) : ∀ (p : List UInt8), c ∉ p → cutL c (p ++ c :: r) = p :: cutL c r
  | [], _ => by simp [cutL]
  | b :: p, h => by
    have ih := cutL_hit c r p (fun hm => h (by simp [hm]))
    exact cutL_cons_ne (fun e => h (by simp [e])) ih
theorem cutL_miss (c : UInt8) : ∀ (p : List UInt8), c ∉ p → cutL c p = [p]
  | [], _ => by simp [cutL]
  | b :: p, h => by
    have ih := cutL_miss c p (fun hm => h (by simp [hm]))
    exact cutL_cons_ne (fun e => h (by simp [e])) ih
/-- Every text is its pieces, the byte between them. -/
def glue (c : UInt8) : List (List UInt8) → List UInt8
  | [] => []
  | x :: r => x ++ r.flatMap (fun y => c :: y)
theorem cutL_glue (c : UInt8) : ∀ l, glue c (cutL c l) = l
  | [] => by simp [cutL, glue]
  | b :: l => by
    have ih := cutL_glue c l
    cases hl : cutL c l with
    | nil => exact absurd hl (cutL_ne c l)
    | cons h t =>
      rw [hl] at ih
      by_cases hb : b = c
      · subst hb
        rw [cutL_cons_eq, hl]
        simp only [glue, List.flatMap_cons, List.nil_append] at ih ⊢
        simpa using ih
      · rw [cutL_cons_ne hb hl]
        simp only [glue] at ih ⊢
        simpa using ih
theorem cutL_of_glue (c : UInt8) : ∀ (r : List (List UInt8)) (x : List UInt8), c ∉ x → (∀ y ∈ r, c ∉ y) → cutL c (glue c (x :: r)) = x :: r
  | [], x, hx, _ => by simpa [glue] using cutL_miss c x hx
  | y :: r, x, hx, hr => by
    have ih := cutL_of_glue c r y (hr y (by simp)) (fun z hz => hr z (by simp [hz]))
    have : glue c (x :: y :: r) = x ++ c :: glue c (y :: r) := by simp [glue, List.flatMap_cons]
    rw [this, cutL_hit c _ x hx, ih]
theorem cutL_not_mem (c : UInt8) : ∀ l, ∀ p ∈ cutL c l, c ∉ p
  | [], p, hp => by simp [cutL] at hp; subst hp; simp
  | b :: l, p, hp => by
    have ih := cutL_not_mem c l
    cases hl : cutL c l with
    | nil => exact absurd hl (cutL_ne c l)
    | cons h t =>
      rw [hl] at ih
      by_cases hb : b = c
      · subst hb
        rw [cutL_cons_eq, hl] at hp
        rcases List.mem_cons.1 hp with rfl | hp
        · simp
        · exact ih p hp
      · rw [cutL_cons_ne hb hl] at hp
        rcases List.mem_cons.1 hp with rfl | hp
        · have := ih h (by simp)
          intro hm
          rcases List.mem_cons.1 hm with rfl | hm
          · exact hb rfl
          · exact this hm
        · exact ih p (by simp [hp])
theorem cutL_len (c : UInt8) : ∀ l, (cutL c l).length = l.count c + 1
  | [] => by simp [cutL]
  | b :: l => by
    have ih := cutL_len c l
    by_cases hb : b = c
    · subst hb
      rw [cutL_cons_eq, List.length_cons, ih, List.count_cons_self]
    · cases hl : cutL c l with
      | nil => exact absurd hl (cutL_ne c l)
      | cons h t =>
        rw [cutL_cons_ne hb hl, List.count_cons_of_ne (by simpa using hb)]
        rw [hl] at ih
        simpa using ih
theorem index_one_cons (b c : UInt8) (l : List UInt8) (h : b ≠ c) : Lib.index (b :: l) [c] = if Lib.index l [c] == -1 then -1 else Lib.index l [c] + 1 := by
  have hp : ([c] : List UInt8).isPrefixOf (b :: l) = false := by simp [List.isPrefixOf, Ne.symm h]
  rw [Lib.index, hp]; simp
theorem index_one_eq (c : UInt8) (l : List UInt8) : Lib.index (c :: l) [c] = 0 := by rw [Lib.index]; simp [List.isPrefixOf]
theorem splitK_cutL (c : UInt8) : ∀ s : List UInt8, Lib.splitK [c] 0 (s.count c) s = cutL c s
  | [] => by simp [Lib.splitK, cutL]
  | b :: l => by
    have ih := splitK_cutL c l
    by_cases hb : b = c
    · subst hb
      rw [List.count_cons_self, cutL_cons_eq, ← ih]
      simp [Lib.splitK, index_one_eq]
    · rw [List.count_cons_of_ne (by simpa using hb)]
      cases hk : l.count c with
      | zero =>
        rw [hk] at ih
        simp only [Lib.splitK] at ih ⊢
        exact (cutL_cons_ne hb ih.symm).symm
      | succ k =>
        rw [hk] at ih
        have hm : Lib.index l [c] ≠ -1 := fun e => by
          have := Lib.count_miss e
          rw [Lib.count_one] at this
          omega
        have hge := Lib.index_ge l [c]
        obtain ⟨j, hj⟩ : ∃ j : Nat, Lib.index l [c] = j := ⟨(Lib.index l [c]).toNat, by omega⟩
        have hj1 : Lib.index (b :: l) [c] = ((j + 1 : Nat) : Int) := by
          rw [index_one_cons b c l hb, hj, if_neg (by rw [beq_iff_eq]; omega)]
          omega
        have e1 : ¬ (((j + 1 : Nat) : Int) == -1) = true := by rw [beq_iff_eq]; omega
        have e2 : ¬ (((j : Nat) : Int) == -1) = true := by rw [beq_iff_eq]; omega
        simp only [Lib.splitK, hj1, hj, if_neg e1, if_neg e2] at ih ⊢
        rw [cutL_cons_ne hb ih.symm]
        simp
theorem splitB_cutL (c : UInt8) (s : ByteArray) : (Lib.splitB ⟨#[c]⟩ 0 (Lib.countB s ⟨#[c]⟩) s).map (·.data.toList) = cutL c s.data.toList := by
  rw [Lib.splitB_data, Lib.countB, show ((⟨#[c]⟩ : ByteArray).data.toList) = [c] from rfl, Lib.count_one, splitK_cutL]
/-- strings.Cut at one byte. -/
theorem cut_one (c : UInt8) : ∀ (l : List UInt8), Lib.cut l [c] = match cutL c l with
    | [] => (l, [], false)
    | [x] => (x, [], false)
    | x :: y :: r => (x, glue c (y :: r), true) := by
  intro l
  have hg := cutL_glue c l
  have hn := cutL_not_mem c l
  have key : ∀ (x r : List UInt8), c ∉ x → Lib.index (x ++ c :: r) [c] = x.length := by
    intro x r
    induction x with
    | nil => intro _; exact index_one_eq c r
    | cons b x ih =>
      intro h
      have := ih (fun hm => h (by simp [hm]))
      rw [List.cons_append, index_one_cons b c _ (fun e => h (by simp [e])), this, if_neg (by rw [beq_iff_eq]; omega)]
      simp
  have miss : ∀ (x : List UInt8), c ∉ x → Lib.index x [c] = -1 := by
    intro x
    induction x with
    | nil => intro _; simp [Lib.index]
    | cons b x ih =>
      intro h
      have := ih (fun hm => h (by simp [hm]))
      rw [index_one_cons b c _ (fun e => h (by simp [e])), this]
      rfl
  cases hl : cutL c l with
  | nil => exact absurd hl (cutL_ne c l)
  | cons x t =>
    rw [hl] at hg hn
    have hx := hn x (by simp)
    cases t with
    | nil =>
      simp [glue] at hg
      subst hg
      simp only [Lib.cut, miss x hx]
      rfl
    | cons y r =>
      have hg' : l = x ++ c :: glue c (y :: r) := by rw [← hg]; simp [glue, List.flatMap_cons]
      rw [hg']
      simp only [Lib.cut, key x _ hx]
      rw [if_pos (by omega)]
      simp
end Go.Proofs.YtomkgnamjfiocaaGreatDoor
namespace Go.Proofs.YtomkgnamjfiocaaGreatDoor
open Go.RowKit Go.ChangeShapes Go.WideShapes Go.ChangeAt Go.Deep
set_option linter.unusedVariables false
def fmtE (e : E) : List UInt8 := if okE 5 e then Lib.itoa e.id ++ [58] ++ Lib.itoa e.fr ++ fmtL (2 * e.lb) ++ Lib.itoa e.to else []
theorem okE_iff {n : Int} {e : E} : okE n e = true ↔ (1 ≤ e.id ∧ e.id ≤ 99) ∧ (0 ≤ e.fr ∧ e.fr ≤ n - 1) ∧ (0 ≤ e.to ∧ e.to ≤ n - 1) ∧ (0 ≤ e.lb ∧ e.lb ≤ 2) := by
  unfold okE
  simp only [Bool.and_eq_true, inB_true]
  constructor
  · rintro ⟨⟨⟨a, b⟩, c⟩, d⟩; exact ⟨a, b, c, d⟩
  · rintro ⟨a, b, c, d⟩; exact ⟨⟨⟨a, b⟩, c⟩, d⟩
theorem itoa_dig {x : Int} (h0 : 0 ≤ x) (h1 : x ≤ 9) : ∃ b : UInt8, Lib.itoa x = [b] ∧ (b.toNat : Int) = 48 + x := by
  obtain ⟨u, rfl⟩ : ∃ u : Nat, x = u := ⟨x.toNat, by omega⟩
  refine ⟨UInt8.ofNat (48 + u), by rw [Lib.itoa_nonneg, dec_small (by omega)], ?_⟩
  rw [UInt8.toNat_ofNat']
  omega
theorem dig_itoa {b : UInt8} (h0 : 48 ≤ b.toNat) (h1 : b.toNat ≤ 57) : Lib.itoa ((b.toNat : Int) - 48) = [b] := by
  obtain ⟨c, hc, he⟩ := itoa_dig (x := (b.toNat : Int) - 48) (by omega) (by omega)
  rw [hc]
  have : c = b := UInt8.toNat_inj.1 (by omega)
  rw [this]
theorem fmtL_dbl {x : Int} (h0 : 0 ≤ x) (h1 : x ≤ 2) : ∃ b : UInt8, fmtL (2 * x) = [b] ∧ (b.toNat : Int) = 97 + x ∧ parseLN [b] = 2 * x := by
  have : x = 0 ∨ x = 1 ∨ x = 2 := by omega
  rcases this with rfl | rfl | rfl
  · exact ⟨97, rfl, rfl, rfl⟩
  · exact ⟨98, rfl, rfl, rfl⟩
  · exact ⟨99, rfl, rfl, rfl⟩
theorem itoa_no {x : Int} {c : UInt8} (hc : c.toNat < 45 ∨ 57 < c.toNat) : c ∉ Lib.itoa x := by
  intro hm
  rcases itoa_cases x with ⟨u, rfl, h⟩ | ⟨u, hu, rfl, h⟩
  · rw [h] at hm
    have := dec_digit hm
    omega
  · rw [h] at hm
    rcases List.mem_cons.1 hm with rfl | hm
    · simp at hc
    · have := dec_digit hm
      omega
/-- An edge's text, its signs named. -/
theorem fmtE_ok {e : E} (h : okE 5 e = true) : ∃ x y z : UInt8, fmtE e = Lib.itoa e.id ++ 58 :: [x, y, z] ∧ (x.toNat : Int) = 48 + e.fr ∧ (y.toNat : Int) = 97 + e.lb ∧ (z.toNat : Int) = 48 + e.to ∧ parseLN [y] = 2 * e.lb := by
  obtain ⟨⟨i0, i1⟩, ⟨f0, f1⟩, ⟨t0, t1⟩, l0, l1⟩ := okE_iff.1 h
  obtain ⟨x, hx, hx'⟩ := itoa_dig f0 (by omega)
  obtain ⟨z, hz, hz'⟩ := itoa_dig t0 (by omega)
  obtain ⟨y, hy, hy', hy''⟩ := fmtL_dbl l0 l1
  refine ⟨x, y, z, ?_, hx', hy', hz', hy''⟩
  unfold fmtE
  rw [if_pos h, hx, hz, hy]
  simp
theorem fmtE_bad {e : E} (h : ¬ okE 5 e = true) : fmtE e = [] := by unfold fmtE; rw [if_neg h]
theorem fmtE_cut {e : E} (h : okE 5 e = true) : ∃ x y z : UInt8, fmtE e = Lib.itoa e.id ++ 58 :: [x, y, z] ∧ cutL 58 (fmtE e) = [Lib.itoa e.id, [x, y, z]] ∧ (x.toNat : Int) = 48 + e.fr ∧ (y.toNat : Int) = 97 + e.lb ∧ (z.toNat : Int) = 48 + e.to ∧ parseLN [y] = 2 * e.lb ∧ prsI (Lib.itoa e.id) = some e.id := by
  obtain ⟨x, y, z, h1, hx, hy, hz, hp⟩ := fmtE_ok h
  obtain ⟨⟨i0, i1⟩, ⟨f0, f1⟩, ⟨t0, t1⟩, l0, l1⟩ := okE_iff.1 h
  refine ⟨x, y, z, h1, ?_, hx, hy, hz, hp, prsI_itoa (by omega) (by omega)⟩
  rw [h1, cutL_hit 58 _ _ (itoa_no (Or.inr (by decide))), cutL_miss]
  intro hm
  simp only [List.mem_cons, List.not_mem_nil, or_false] at hm
  rcases hm with rfl | rfl | rfl <;> simp at hx hy hz <;> omega
/-- What the program makes of the two parts of an edge's text. -/
def edI (a : List UInt8) (x y z : UInt8) : E := ⟨(prsI a).getD 0, (x.toNat : Int) - 48, (z.toNat : Int) - 48, (y.toNat : Int) - 97⟩
/-- What the reference makes of them. -/
def edS (a : List UInt8) (x y z : UInt8) : E := ⟨(prsI a).getD 0, (x.toNat : Int) - 48, (z.toNat : Int) - 48, (parseLN [y]).tdiv 2⟩
def prsE (l : List UInt8) : Option E := match (Lib.cut l [58]).2.1 with
  | [x, y, z] => if fmtE (edI (Lib.cut l [58]).1 x y z) = l then some (edI (Lib.cut l [58]).1 x y z) else none
  | _ => none
def prsES (l : List UInt8) : Option E := match cutL 58 l with
  | [a, [x, y, z]] => if fmtE (edS a x y z) = l then some (edS a x y z) else none
  | _ => none
theorem prsE_iff (l : List UInt8) (e : E) : prsE l = some e ↔ okE 5 e = true ∧ fmtE e = l := by
  constructor
  · intro h
    unfold prsE at h
    split at h
    · rename_i x y z hb
      split at h
      · rename_i hf
        injection h with h
        rw [h] at hf
        refine ⟨?_, hf⟩
        by_cases ho : okE 5 e = true
        · exact ho
        · exfalso
          rw [fmtE_bad ho] at hf
          subst hf
          rw [cut_one] at hb
          simp [cutL] at hb
      · cases h
    · cases h
  · rintro ⟨ho, rfl⟩
    obtain ⟨x, y, z, h1, hc, hx, hy, hz, hp, hi⟩ := fmtE_cut ho
    have hcut : Lib.cut (fmtE e) [58] = (Lib.itoa e.id, [x, y, z], true) := by rw [cut_one, hc]; simp [glue]
    have he : edI (Lib.itoa e.id) x y z = e := by
      unfold edI
      rw [hi]
      obtain ⟨a, b, c, d⟩ := e
      simp at hx hy hz ⊢
      omega
    unfold prsE
    rw [hcut]
    simp only [he, if_true]
theorem prsES_iff (l : List UInt8) (e : E) : prsES l = some e ↔ okE 5 e = true ∧ fmtE e = l := by
  constructor
  · intro h
    unfold prsES at h
    split at h
    · rename_i a x y z hb
      split at h
      · rename_i hf
        injection h with h
        rw [h] at hf
        refine ⟨?_, hf⟩
        by_cases ho : okE 5 e = true
        · exact ho
        · exfalso
          rw [fmtE_bad ho] at hf
          subst hf
          simp [cutL] at hb
      · cases h
    · cases h
  · rintro ⟨ho, rfl⟩
    obtain ⟨x, y, z, h1, hc, hx, hy, hz, hp, hi⟩ := fmtE_cut ho
    obtain ⟨⟨i0, i1⟩, ⟨f0, f1⟩, ⟨t0, t1⟩, l0, l1⟩ := okE_iff.1 ho
    have he : edS (Lib.itoa e.id) x y z = e := by
      unfold edS
      rw [hi, hp, Int.tdiv_eq_ediv_of_nonneg (by omega)]
      obtain ⟨a, b, c, d⟩ := e
      simp at hx hy hz ⊢
      omega
    unfold prsES
    rw [hc]
    simp only [he, if_true]
theorem prsES_eq (l : List UInt8) : prsES l = prsE l := by
  cases h : prsE l with
  | some e => exact (prsES_iff l e).2 ((prsE_iff l e).1 h)
  | none =>
    cases h2 : prsES l with
    | none => rfl
    | some e => rw [(prsE_iff l e).2 ((prsES_iff l e).1 h2)] at h; cases h
theorem prsE_nil : prsE [] = none := by unfold prsE; rw [cut_one]; simp [cutL]
theorem fmtE_len (e : E) : (fmtE e).length ≤ 16 := by
  by_cases h : okE 5 e = true
  · obtain ⟨x, y, z, h1, _⟩ := fmtE_ok h
    have := okE_iff.1 h
    have := itoa_len9 (n := e.id) (by omega) (by omega)
    rw [h1]
    simp
    omega
  · rw [fmtE_bad h]; simp
theorem fmtE_no {e : E} : (32 : UInt8) ∉ fmtE e := by
  by_cases h : okE 5 e = true
  · obtain ⟨x, y, z, h1, hx, hy, hz, _⟩ := fmtE_ok h
    have := okE_iff.1 h
    rw [h1]
    intro hm
    rcases List.mem_append.1 hm with hm | hm
    · exact itoa_no (Or.inl (by decide)) hm
    · simp only [List.mem_cons, List.not_mem_nil, or_false] at hm
      rcases hm with hm | rfl | rfl | rfl
      · exact absurd hm (by decide)
      · simp at hx; omega
      · simp at hy; omega
      · simp at hz; omega
  · rw [fmtE_bad h]; simp
theorem fmtE_ne {e : E} (h : okE 5 e = true) : fmtE e ≠ [] := by
  obtain ⟨x, y, z, h1, _⟩ := fmtE_ok h
  rw [h1]; simp

/-- Words. -/
def prsWd (l : List UInt8) : Option (List Int) := if l = [40, 41] then some [] else if (cutL 32 l).all parseLB && wordB ((cutL 32 l).map parseLN) then some ((cutL 32 l).map parseLN) else none
def prsWdS (l : List UInt8) : Option (List Int) := if l = [40, 41] then some [] else if ((cutL 32 l).take 9).all parseLB && wordB (((cutL 32 l).take 9).map parseLN) then some (((cutL 32 l).take 9).map parseLN) else none
theorem prsWdS_eq (l : List UInt8) : prsWdS l = prsWd l := by
  unfold prsWdS prsWd
  split
  · rfl
  · by_cases h : (cutL 32 l).length ≤ 9
    · rw [List.take_of_length_le h]
    · rw [if_neg, if_neg]
      · simp only [wordB, Bool.and_eq_true, decide_eq_true_eq, List.length_map]
        omega
      · simp only [wordB, Bool.and_eq_true, decide_eq_true_eq, List.length_map, List.length_take]
        omega

/-- Graphs. -/
def fmtG (g : G) : List UInt8 := if validG g then g.vs.flatMap Lib.itoa ++ g.es.flatMap (fun e => 32 :: fmtE e) else []
def dv (b : UInt8) : Int := (b.toNat : Int) - 48
def prsEs : List (List UInt8) → Option (List E)
  | [] => some []
  | p :: r => match prsE p with
    | some e => (prsEs r).map (e :: ·)
    | none => none
def prsG (l : List UInt8) : Option G := match cutL 32 l with
  | [] => none
  | p :: r => match prsEs r with
    | some es => if fmtG ⟨p.map dv, es⟩ = l ∧ l ≠ [] then some ⟨p.map dv, es⟩ else none
    | none => none
def prsGS (l : List UInt8) : Option G := match cutL 32 l with
  | [] => none
  | p :: r => match prsEs (r.take 13) with
    | some es => if validG ⟨(p.take 6).map dv, es⟩ then some ⟨(p.take 6).map dv, es⟩ else none
    | none => none
theorem prsEs_len : ∀ {r : List (List UInt8)} {es : List E}, prsEs r = some es → es.length = r.length ∧ es.map fmtE = r
  | [], es, h => by simp [prsEs] at h; subst h; simp
  | p :: r, es, h => by
    unfold prsEs at h
    cases hp : prsE p with
    | none => rw [hp] at h; cases h
    | some e =>
      rw [hp] at h
      simp only [Option.map_eq_some_iff] at h
      obtain ⟨t, ht, rfl⟩ := h
      obtain ⟨h1, h2⟩ := prsEs_len ht
      exact ⟨by simp [h1], by simp [h2, ((prsE_iff p e).1 hp).2]⟩
theorem prsEs_take : ∀ (r : List (List UInt8)) (es : List E) (k : Nat), prsEs r = some es → prsEs (r.take k) = some (es.take k)
  | [], es, k, h => by simp [prsEs] at h; subst h; simp [prsEs]
  | p :: r, es, 0, h => by simp [prsEs]
  | p :: r, es, k + 1, h => by
    unfold prsEs at h
    cases hp : prsE p with
    | none => rw [hp] at h; cases h
    | some e =>
      rw [hp] at h
      simp only [Option.map_eq_some_iff] at h
      obtain ⟨t, ht, rfl⟩ := h
      simp [prsEs, hp, prsEs_take r t k ht]
theorem prsEs_snoc : ∀ (r : List (List UInt8)) (es : List E) (p : List UInt8), prsEs r = some es → prsEs (r ++ [p]) = (prsE p).map (fun e => es ++ [e])
  | [], es, p, h => by
    simp [prsEs] at h; subst h
    simp only [List.nil_append, prsEs]
    cases prsE p <;> rfl
  | q :: r, es, p, h => by
    unfold prsEs at h
    cases hp : prsE q with
    | none => rw [hp] at h; cases h
    | some e =>
      rw [hp] at h
      simp only [Option.map_eq_some_iff] at h
      obtain ⟨t, ht, rfl⟩ := h
      simp only [List.cons_append, prsEs, hp, prsEs_snoc r t p ht]
      cases prsE p <;> rfl
theorem prsEs_bad : ∀ (r : List (List UInt8)) (p : List UInt8) (s : List (List UInt8)), prsE p = none → prsEs (r ++ p :: s) = none
  | [], p, s, h => by simp [prsEs, h]
  | q :: r, p, s, h => by
    simp only [List.cons_append, prsEs]
    cases prsE q with
    | none => rfl
    | some e => simp [prsEs_bad r p s h]
theorem validG_iff {g : G} (h : validG g = true) : (∀ v ∈ g.vs, 0 ≤ v ∧ v ≤ 2) ∧ (1 ≤ g.vs.length ∧ g.vs.length ≤ 5) ∧ g.es.length ≤ 12 := by
  unfold validG at h
  simp only [Bool.and_eq_true, List.all_eq_true, decide_eq_true_eq] at h
  obtain ⟨⟨⟨a, b⟩, c⟩, d⟩ := h
  have := inB_true.1 c
  exact ⟨fun v hv => inB_true.1 (a v hv), by omega, d⟩
theorem vals_back : ∀ (p : List UInt8), (∀ v ∈ p.map dv, 0 ≤ v ∧ v ≤ 2) → (p.map dv).flatMap Lib.itoa = p
  | [], _ => rfl
  | b :: p, h => by
    have hb := h (dv b) (by simp)
    unfold dv at hb
    rw [List.map_cons, List.flatMap_cons, vals_back p (fun v hv => h v (by simp at hv ⊢; exact Or.inr hv))]
    unfold dv
    rw [dig_itoa (by omega) (by omega)]
    rfl
theorem edges_back (es : List E) : es.flatMap (fun e => 32 :: fmtE e) = (es.map fmtE).flatMap (fun y => 32 :: y) := by
  rw [List.flatMap_map]
theorem prsGS_eq (l : List UInt8) : prsGS l = prsG l := by
  have hg := cutL_glue 32 l
  unfold prsGS prsG
  cases hc : cutL 32 l with
  | nil => rfl
  | cons p r =>
    rw [hc] at hg
    simp only
    cases hr : prsEs r with
    | none =>
      simp only
      cases ht : prsEs (r.take 13) with
      | none => rfl
      | some es =>
        simp only
        have hl := (prsEs_len ht).1
        rw [if_neg]
        intro hv
        have := (validG_iff hv).2.2
        simp only at this
        by_cases h13 : r.length ≤ 13
        · rw [List.take_of_length_le h13] at ht
          rw [ht] at hr
          cases hr
        · rw [List.length_take] at hl
          omega
    | some es =>
      obtain ⟨hl, hm⟩ := prsEs_len hr
      rw [prsEs_take r es 13 hr]
      simp only
      by_cases hv : validG ⟨p.map dv, es⟩ = true
      · obtain ⟨h1, h2, h3⟩ := validG_iff hv
        simp only [List.length_map] at h1 h2 h3
        rw [List.take_of_length_le (by omega), List.take_of_length_le (by omega), if_pos hv, if_pos]
        refine ⟨?_, ?_⟩
        · unfold fmtG
          rw [if_pos hv]
          simp only
          rw [vals_back p h1, edges_back, hm, ← hg]
          rfl
        · rintro rfl
          simp [cutL] at hc
          rw [hc.1] at h2
          simp at h2
      · rw [if_neg, if_neg]
        · rintro ⟨h1, h2⟩
          unfold fmtG at h1
          rw [if_neg hv] at h1
          exact h2 h1.symm
        · intro hv2
          obtain ⟨h1, h2, h3⟩ := validG_iff hv2
          simp only [List.length_map, List.length_take] at h1 h2 h3
          rw [List.take_of_length_le (by omega), List.take_of_length_le (by omega)] at hv2
          exact hv hv2

/-- Walks. -/
def stOk (s : St) : Bool := inB s.ed 1 99
def fmtS (s : St) : List UInt8 := 32 :: (Lib.itoa s.ed ++ if s.inv then [45] else [])
def fmtWk (st : Int) (l : List St) : List UInt8 := if inB st 0 4 && decide (l.length ≤ 60) && l.all stOk then Lib.itoa st ++ l.flatMap fmtS else []
def dashB (p : List UInt8) : Bool := p.getLast? == some 45
def stP (p : List UInt8) : St := if dashB p then ⟨(prsI p.dropLast).getD 0, true⟩ else ⟨(prsI p).getD 0, false⟩
def prsW (l : List UInt8) : Option (Int × List St) := match cutL 32 l with
  | [] => none
  | p :: r => if fmtWk ((prsI p).getD 0) (r.map stP) = l then some ((prsI p).getD 0, r.map stP) else none
def prsWS (l : List UInt8) : Option (Int × List St) := match cutL 32 l with
  | [] => none
  | p :: r => if l ≠ [] ∧ fmtWk ((prsI p).getD 0) ((r.take 61).map stP) = l then some ((prsI p).getD 0, (r.take 61).map stP) else none
theorem prsWS_eq (l : List UInt8) : prsWS l = prsW l := by
  have hg := cutL_glue 32 l
  unfold prsWS prsW
  cases hc : cutL 32 l with
  | nil => rfl
  | cons p r =>
    simp only
    by_cases h0 : l = []
    · subst h0
      simp [cutL] at hc
      obtain ⟨rfl, rfl⟩ := hc
      rw [if_neg (by simp), if_neg]
      have e1 : fmtWk ((prsI []).getD 0) (List.map stP []) = Lib.itoa 0 ++ [] := rfl
      rw [e1]
      obtain ⟨b, hb, _⟩ := itoa_dig (x := 0) (by omega) (by omega)
      rw [hb]
      simp
    · by_cases hr : r.length ≤ 61
      · rw [List.take_of_length_le hr]
        simp [h0]
      · rw [if_neg, if_neg]
        · intro h
          rw [fmtWk, if_neg] at h
          · exact h0 h.symm
          · simp; omega
        · rintro ⟨_, h⟩
          rw [fmtWk, if_neg] at h
          · exact h0 h.symm
          · simp [List.length_take]; omega
theorem suffix_one (c : UInt8) (p : List UInt8) : Lib.hasSuffix p [c] = (p.getLast? == some c) := by
  unfold Lib.hasSuffix
  rcases List.eq_nil_or_concat p with rfl | ⟨q, b, rfl⟩
  · rfl
  · simp only [List.concat_eq_append, List.getLast?_append, List.getLast?_singleton, Option.some_or]
    rw [List.isSuffixOf, List.reverse_append]
    simp only [List.reverse_cons, List.reverse_nil, List.nil_append, List.singleton_append, List.isPrefixOf, Bool.and_true]
    exact BEq.comm
theorem trim_one (c : UInt8) (p : List UInt8) : Lib.trimSuffix p [c] = if p.getLast? == some c then p.dropLast else p := by
  unfold Lib.trimSuffix
  rw [suffix_one, List.dropLast_eq_take]
  rfl

/-- Batches. -/
def fmtC (c : Cg) : List UInt8 := (if c.ins then 43 else 45) :: fmtE c.e
def fmtBt (l : List Cg) : List UInt8 := if decide (l.length ≤ 6) && l.all (fun c => okE 5 c.e) then Lib.join (l.map fmtC) [32] else []
def prsC (p : List UInt8) : Option Cg := match p with
  | [] => none
  | b :: r => (prsE r).map fun e => ⟨b == 43, e⟩
def prsCs : List (List UInt8) → Option (List Cg)
  | [] => some []
  | p :: r => match prsC p with
    | some e => (prsCs r).map (e :: ·)
    | none => none
def prsBt (l : List UInt8) : Option (List Cg) := if l = [] then some [] else match prsCs (cutL 32 l) with
  | some cs => if fmtBt cs = l then some cs else none
  | none => none
def prsBtS (l : List UInt8) : Option (List Cg) := if l = [] then some [] else match prsCs ((cutL 32 l).take 7) with
  | some cs => if fmtBt cs = l then some cs else none
  | none => none
theorem prsCs_len : ∀ {r : List (List UInt8)} {es : List Cg}, prsCs r = some es → es.length = r.length
  | [], es, h => by simp [prsCs] at h; subst h; simp
  | p :: r, es, h => by
    unfold prsCs at h
    cases hp : prsC p with
    | none => rw [hp] at h; cases h
    | some e =>
      rw [hp] at h
      simp only [Option.map_eq_some_iff] at h
      obtain ⟨t, ht, rfl⟩ := h
      simp [prsCs_len ht]
theorem prsCs_snoc : ∀ (r : List (List UInt8)) (es : List Cg) (p : List UInt8), prsCs r = some es → prsCs (r ++ [p]) = (prsC p).map (fun e => es ++ [e])
  | [], es, p, h => by
    simp [prsCs] at h; subst h
    simp only [List.nil_append, prsCs]
    cases prsC p <;> rfl
  | q :: r, es, p, h => by
    unfold prsCs at h
    cases hp : prsC q with
    | none => rw [hp] at h; cases h
    | some e =>
      rw [hp] at h
      simp only [Option.map_eq_some_iff] at h
      obtain ⟨t, ht, rfl⟩ := h
      simp only [List.cons_append, prsCs, hp, prsCs_snoc r t p ht]
      cases prsC p <;> rfl
theorem prsCs_bad : ∀ (r : List (List UInt8)) (p : List UInt8) (s : List (List UInt8)), prsC p = none → prsCs (r ++ p :: s) = none
  | [], p, s, h => by simp [prsCs, h]
  | q :: r, p, s, h => by
    simp only [List.cons_append, prsCs]
    cases prsC q with
    | none => rfl
    | some e => simp [prsCs_bad r p s h]
theorem prsCs_pre : ∀ (r : List (List UInt8)) (es : List Cg) (k : Nat), prsCs r = some es → ∃ t, prsCs (r.take k) = some t
  | [], es, k, h => ⟨[], by simp [prsCs]⟩
  | p :: r, es, 0, h => ⟨[], by simp [prsCs]⟩
  | p :: r, es, k + 1, h => by
    unfold prsCs at h
    cases hp : prsC p with
    | none => rw [hp] at h; cases h
    | some e =>
      rw [hp] at h
      simp only [Option.map_eq_some_iff] at h
      obtain ⟨t, ht, rfl⟩ := h
      obtain ⟨u, hu⟩ := prsCs_pre r t k ht
      exact ⟨e :: u, by simp [prsCs, hp, hu]⟩
theorem prsBtS_eq (l : List UInt8) : prsBtS l = prsBt l := by
  unfold prsBtS prsBt
  by_cases h0 : l = []
  · rw [if_pos h0, if_pos h0]
  · rw [if_neg h0, if_neg h0]
    by_cases hr : (cutL 32 l).length ≤ 7
    · rw [List.take_of_length_le hr]
    · have big : ∀ cs : List Cg, 6 < cs.length → ¬ fmtBt cs = l := by
        intro cs hl h
        unfold fmtBt at h
        rw [if_neg] at h
        · exact h0 h.symm
        · simp; omega
      have e1 : (match prsCs (cutL 32 l) with | some cs => if fmtBt cs = l then some cs else none | none => none) = none := by
        cases hp : prsCs (cutL 32 l) with
        | none => rfl
        | some cs =>
          simp only
          rw [if_neg (big cs (by have := prsCs_len hp; omega))]
      have e2 : (match prsCs ((cutL 32 l).take 7) with | some cs => if fmtBt cs = l then some cs else none | none => none) = none := by
        cases hp : prsCs ((cutL 32 l).take 7) with
        | none => rfl
        | some cs =>
          simp only
          rw [if_neg (big cs (by have := prsCs_len hp; rw [List.length_take] at this; omega))]
      rw [e1, e2]
end Go.Proofs.YtomkgnamjfiocaaGreatDoor
namespace Go.Proofs.YtomkgnamjfiocaaGreatDoor
open Go.RowKit Go.ChangeShapes Go.WideShapes Go.ChangeAt Go.Deep
set_option linter.unusedVariables false
theorem var_same {P : Program} {w w' : World} {n : String} {cs : Array Value} {g : Nat} (hg : P.globalNamed n = some g) (h : w.var? P n = some cs) (hk : w'.heap[g]? = w.heap[g]?) : w'.var? P n = some cs := by
  unfold World.var? at h ⊢
  simp only [hg, Option.bind_some] at h ⊢
  rw [hk]
  exact h
theorem var_lt {P : Program} {w : World} {n : String} {cs : Array Value} {g : Nat} (hg : P.globalNamed n = some g) (h : w.var? P n = some cs) : g < w.heap.size := by
  rcases Nat.lt_or_ge g w.heap.size with h' | h'
  · exact h'
  · unfold World.var? at h
    simp [hg, Array.getElem?_eq_none h'] at h
theorem gP : Tryz.prog.globalNamed "internal/strconv.uint64pow10" = some 3 := by kernel_rfl
theorem gE : Tryz.prog.globalNamed "strconv.ErrSyntax" = some 1 := by kernel_rfl
/-- The table of powers of ten holds its twenty numbers. -/
structure TabP (w : World) : Prop where
  t : Lib.TabIs Tryz.prog w "internal/strconv.uint64pow10" .u64 Lib.pow10Tab
/-- strconv.ErrSyntax holds an error. -/
structure TabE (w : World) : Prop where
  t : ∃ tp p, w.var? Tryz.prog "strconv.ErrSyntax" = some #[.iface tp p]
/-- bytealg.MaxLen holds an int. -/
structure TabM (w : World) : Prop where
  t : ∃ m, w.cell? ⟨0, 0, none⟩ = some (.int .i64 m)
theorem TabP.lt {w : World} (h : TabP w) : 3 < w.heap.size := var_lt gP h.t
theorem TabE.lt {w : World} (h : TabE w) : 1 < w.heap.size := by obtain ⟨_, _, h⟩ := h.t; exact var_lt gE h
theorem TabM.lt {w : World} (h : TabM w) : 0 < w.heap.size := by obtain ⟨_, h⟩ := h.t; exact World.block_lt_of_cell? w _ h
theorem TabP.keep {w w' : World} (h : TabP w) (hk : ∀ g, g < w.heap.size → g < 8 → w'.heap[g]? = w.heap[g]?) : TabP w' := ⟨var_same gP h.t (hk _ h.lt (by decide))⟩
theorem TabE.keep {w w' : World} (h : TabE w) (hk : ∀ g, g < w.heap.size → g < 8 → w'.heap[g]? = w.heap[g]?) : TabE w' := by
  have hl := h.lt
  obtain ⟨a, b, h⟩ := h.t
  exact ⟨a, b, var_same gE h (hk _ hl (by decide))⟩
theorem TabM.keep {w w' : World} (h : TabM w) (hk : ∀ g, g < w.heap.size → g < 8 → w'.heap[g]? = w.heap[g]?) : TabM w' := by
  have hl := h.lt
  obtain ⟨m, h⟩ := h.t
  exact ⟨m, (World.cell?_of_block (hk _ hl (by decide))).trans h⟩
theorem TabP.up {W w : World} (h : TabP W) (hb : Below W.heap.size W w) : TabP w := h.keep fun g hg _ => hb.block g hg
theorem TabE.up {W w : World} (h : TabE W) (hb : Below W.heap.size W w) : TabE w := h.keep fun g hg _ => hb.block g hg
theorem TabM.up {W w : World} (h : TabM W) (hb : Below W.heap.size W w) : TabM w := h.keep fun g hg _ => hb.block g hg

theorem gPType : (Tryz.prog.globals[3]?).map (·.type) = some 197 := by kernel_rfl
theorem pCells : Tryz.prog.cellsOf 197 = 20 := by kernel_rfl
theorem pCell : Tryz.prog.cellsOf 161 = 1 := by kernel_rfl
theorem pow_eq : (Rows.laid_internal_strconv_uint64pow10 : DataW Unit) = Lib.tabData .u64 Lib.pow10Tab := by kernel_rfl
theorem tabP_of {W : World} {rest : List (String × DataW Unit)} (h0 : laidMet Tryz.prog (("internal/strconv.uint64pow10", Rows.laid_internal_strconv_uint64pow10) :: rest) W) : TabP W := by
  have h : laidMet Tryz.prog (("internal/strconv.uint64pow10", Lib.tabData .u64 Lib.pow10Tab) :: rest) W := by rw [← pow_eq]; exact h0
  exact ⟨Lib.tabIs_of_head gP gPType Tryz.underlying197 Tryz.underlying161 pCell pCells h⟩
theorem gEType : (Tryz.prog.globals[1]?).map (·.type) = some 124 := by kernel_rfl
theorem cellsES : Tryz.prog.cellsOf 209 = 1 := by kernel_rfl
theorem cellsStr : Tryz.prog.cellsOf 9 = 1 := by kernel_rfl
theorem star : "*" ++ "errors.errorString" = "*errors.errorString" := by decide
theorem rowES (u : TypeId) (h : Tryz.prog.typeName? 3 u = some "*errors.errorString") : u = 207 :=
  typeName_ptr_named (nm := "errors.errorString") (by rw [star]; kernel_rfl) (by kernel_rfl) (by decide) u (by rw [star]; exact h)
theorem tabE_of {W : World} {text : List UInt8} {rest : List (String × DataW Unit)} (h : laidMet Tryz.prog (("strconv.ErrSyntax", .iface "*errors.errorString" (.ptr (.agg [.lit (.string text)]))) :: rest) W) : TabE W := by
  obtain ⟨a0, s0, hv0, -, -, -⟩ := laid_sentinel h gE gEType Tryz.underlying124 rowES Tryz.underlying207 Tryz.underlying209 rfl rfl Tryz.underlying9 cellsES cellsStr
  exact ⟨_, _, hv0⟩
theorem tabM_of {W : World} (h : W.ShapedOpen Tryz.prog) : TabM W :=
  ⟨Go.Proofs.cell_of_shapedOpen_int (g := 0) (t := 3) (zero := #[.int .i64 0]) h (of_decide_eq_true (by kernel_rfl)) (by kernel_rfl) rfl (by kernel_rfl) (by kernel_rfl) Tryz.underlying3⟩
end Go.Proofs.YtomkgnamjfiocaaGreatDoor
