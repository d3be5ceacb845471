/- Decimal numerals: plain facts, no program. What ParseInt of both packages gives: prsI. -/
import Derived.Lib.Atoi
import Derived.Lib.AtoiErr
import Derived.Lib.AtoiBound
import Derived.Lib.ItoaLen
import Derived.Test.YtljggmgijadjaaaGreatDoorBaseA
namespace Go.Proofs.YtljggmgijadjaaaGreatDoor
open Go.RowKit Go.ChangeShapes Go.WideShapes Go.ChangeAt Go.Deep
set_option linter.unusedVariables false
theorem dec_small {u : Nat} (h : u < 10) : Lib.decDigits u = [UInt8.ofNat (48 + u)] := by rw [Lib.decDigits, dif_pos h]
theorem dec_big {u : Nat} (h : ¬ u < 10) : Lib.decDigits u = Lib.decDigits (u / 10) ++ [UInt8.ofNat (48 + u % 10)] := by rw [Lib.decDigits, dif_neg h]
/-- The digits of what is left of a number from which digits were taken at its end. -/
def tailDec (v : Nat) : List UInt8 := if v = 0 then [] else Lib.decDigits v
theorem tailDec_step {v : Nat} (h : v ≠ 0) : tailDec v = tailDec (v / 10) ++ [UInt8.ofNat (48 + v % 10)] := by
  unfold tailDec
  rw [if_neg h]
  by_cases h10 : v < 10
  · rw [if_pos (by omega), dec_small h10, Nat.mod_eq_of_lt h10]; rfl
  · rw [if_neg (by omega), dec_big h10]
theorem digitVal_dig {k : Nat} (h : k < 10) : Lib.digitVal (UInt8.ofNat (48 + k)) = some k := by
  have : k = 0 ∨ k = 1 ∨ k = 2 ∨ k = 3 ∨ k = 4 ∨ k = 5 ∨ k = 6 ∨ k = 7 ∨ k = 8 ∨ k = 9 := by omega
  rcases this with rfl | rfl | rfl | rfl | rfl | rfl | rfl | rfl | rfl | rfl <;> rfl
theorem decFrom_append : ∀ (a b : List UInt8) (acc : Nat), Lib.decFrom acc (a ++ b) = (Lib.decFrom acc a).bind fun m => Lib.decFrom m b
  | [], b, acc => by simp [Lib.decFrom]
  | x :: a, b, acc => by
    simp only [List.cons_append, Lib.decFrom]
    cases Lib.digitVal x with
    | none => rfl
    | some d => exact decFrom_append a b _
theorem decFrom_dec (u : Nat) : Lib.decFrom 0 (Lib.decDigits u) = some u := by
  induction u using Nat.strongRecOn with
  | _ u ih =>
    by_cases h : u < 10
    · rw [dec_small h]
      simp only [Lib.decFrom, digitVal_dig h, Nat.zero_mul, Nat.zero_add]
    · rw [dec_big h, decFrom_append, ih (u / 10) (by omega)]
      simp only [Option.bind_some, Lib.decFrom, digitVal_dig (show u % 10 < 10 by omega)]
      congr 1
      omega
theorem dec_ne (u : Nat) : Lib.decDigits u ≠ [] := by
  intro h
  have := Lib.decDigits_length u
  rw [h] at this
  have := Lib.nDigits_pos u
  simp at *
  omega
theorem dec_digit {u : Nat} {b : UInt8} (h : b ∈ Lib.decDigits u) : 48 ≤ b.toNat ∧ b.toNat ≤ 57 := by
  obtain ⟨k, hk⟩ := List.mem_iff_getElem?.1 h
  obtain ⟨d, hd⟩ := Lib.digit_of_decFrom _ _ _ (decFrom_dec u) k b hk
  have := Lib.digitVal_eq hd
  omega
theorem decNat_dec (u : Nat) : Lib.decNat (Lib.decDigits u) = some u := by
  unfold Lib.decNat
  rw [if_neg (by simp [dec_ne u]), decFrom_dec]
theorem itoa_cases (n : Int) : (∃ u : Nat, n = u ∧ Lib.itoa n = Lib.decDigits u) ∨ (∃ u : Nat, 1 ≤ u ∧ n = -(u : Int) ∧ Lib.itoa n = 45 :: Lib.decDigits u) := by
  by_cases h : n < 0
  · obtain ⟨u, rfl⟩ : ∃ u : Nat, n = -(u : Int) := ⟨n.natAbs, by omega⟩
    exact Or.inr ⟨u, by omega, rfl, Lib.itoa_neg u (by omega)⟩
  · obtain ⟨u, rfl⟩ : ∃ u : Nat, n = u := ⟨n.toNat, by omega⟩
    exact Or.inl ⟨u, rfl, Lib.itoa_nonneg u⟩
theorem atoi_itoa (n : Int) : Lib.atoi (Lib.itoa n) = some n := by
  rcases itoa_cases n with ⟨u, rfl, h⟩ | ⟨u, hu, rfl, h⟩
  · rw [h]
    cases hd : Lib.decDigits u with
    | nil => exact absurd hd (dec_ne u)
    | cons b r =>
      have hb := dec_digit (u := u) (b := b) (by rw [hd]; simp)
      have h45 : (b == 45) = false := beq_eq_false_iff_ne.2 (by rintro rfl; simp at hb)
      have h43 : (b == 43) = false := beq_eq_false_iff_ne.2 (by rintro rfl; simp at hb)
      have := decNat_dec u
      rw [hd] at this
      simp [Lib.atoi, h45, h43, this]
  · rw [h]
    simp [Lib.atoi, decNat_dec u]
theorem itoa_inj {m n : Int} (h : Lib.itoa m = Lib.itoa n) : m = n := by
  have h1 := atoi_itoa m
  rw [h, atoi_itoa n] at h1
  exact (Option.some.inj h1).symm
theorem nDigits_le_of_lt : ∀ (k u : Nat), 1 ≤ k → u < 10 ^ k → Lib.nDigits u ≤ k
  | 0, u, h, _ => by omega
  | k + 1, u, _, h => by
    by_cases h10 : u < 10
    · rw [Lib.nDigits_small h10]; omega
    · rw [Lib.nDigits_big h10]
      rw [Nat.pow_succ] at h
      have hk : 1 ≤ k := by
        rcases Nat.eq_zero_or_pos k with rfl | hk
        · simp at h; omega
        · exact hk
      have := nDigits_le_of_lt k (u / 10) hk (by omega)
      omega
theorem itoa_len9 {n : Int} (h0 : -999999999 ≤ n) (h1 : n ≤ 999999999) : (Lib.itoa n).length ≤ 10 := by
  rcases itoa_cases n with ⟨u, rfl, h⟩ | ⟨u, hu, rfl, h⟩
  · rw [h, Lib.decDigits_length]
    have := nDigits_le_of_lt 9 u (by omega) (by omega)
    omega
  · rw [h, List.length_cons, Lib.decDigits_length]
    have := nDigits_le_of_lt 9 u (by omega) (by omega)
    omega

/-- What ParseInt reads. -/
def prsI (l : List UInt8) : Option Int := match Lib.atoi l with
  | some n => if Lib.itoa n = l ∧ -999999999 ≤ n ∧ n ≤ 999999999 then some n else none
  | none => none
theorem prsI_itoa {n : Int} (h0 : -999999999 ≤ n) (h1 : n ≤ 999999999) : prsI (Lib.itoa n) = some n := by
  unfold prsI
  rw [atoi_itoa]
  simp [h0, h1]
theorem prsI_some {l : List UInt8} {n : Int} (h : prsI l = some n) : l = Lib.itoa n ∧ -999999999 ≤ n ∧ n ≤ 999999999 := by
  unfold prsI at h
  cases ha : Lib.atoi l with
  | none => rw [ha] at h; cases h
  | some m =>
    rw [ha] at h
    simp only at h
    split at h
    · rename_i hc
      injection h with h
      subst h
      exact ⟨hc.1.symm, hc.2⟩
    · cases h
theorem prsI_len {l : List UInt8} (h : 10 < l.length) : prsI l = none := by
  cases hp : prsI l with
  | none => rfl
  | some n =>
    obtain ⟨h1, h2, h3⟩ := prsI_some hp
    have := itoa_len9 h2 h3
    rw [← h1] at this
    omega
/-- The reference's loop: the number that the digits among l spell, and how many they are. -/
def dgStep (p : Nat × Nat) (b : UInt8) : Nat × Nat := match Lib.digitVal b with
  | some d => (p.1 * 10 + d, p.2 + 1)
  | none => p
def dgs (l : List UInt8) : Nat × Nat := l.foldl dgStep (0, 0)
theorem dgs_snoc (l : List UInt8) (b : UInt8) : dgs (l ++ [b]) = dgStep (dgs l) b := by simp [dgs]
theorem dgs_lt (l : List UInt8) : (dgs l).1 < 10 ^ (dgs l).2 ∧ (dgs l).2 ≤ l.length := by
  have key : ∀ (l : List UInt8) (p : Nat × Nat), p.1 < 10 ^ p.2 → (l.foldl dgStep p).1 < 10 ^ (l.foldl dgStep p).2 ∧ (l.foldl dgStep p).2 ≤ p.2 + l.length := by
    intro l
    induction l with
    | nil => intro p h; exact ⟨h, by simp⟩
    | cons b l ih =>
      intro p h
      have h2 : (dgStep p b).1 < 10 ^ (dgStep p b).2 ∧ (dgStep p b).2 ≤ p.2 + 1 := by
        unfold dgStep
        cases hd : Lib.digitVal b with
        | none => exact ⟨h, by simp⟩
        | some d =>
          have := Lib.digitVal_eq hd
          refine ⟨?_, by simp⟩
          simp only
          rw [Nat.pow_succ]
          omega
      obtain ⟨a, c⟩ := ih _ h2.1
      refine ⟨a, ?_⟩
      simp only [List.foldl_cons, List.length_cons]
      omega
  have := key l (0, 0) (by simp)
  simpa [dgs] using this
theorem dgs_dec (l : List UInt8) : ∀ (acc m : Nat) (q : Nat), Lib.decFrom acc l = some m → l.foldl dgStep (acc, q) = (m, q + l.length) := by
  induction l with
  | nil => intro acc m q h; simp only [Lib.decFrom, Option.some.injEq] at h; subst h; rfl
  | cons b l ih =>
    intro acc m q h
    simp only [Lib.decFrom] at h
    cases hd : Lib.digitVal b with
    | none => rw [hd] at h; cases h
    | some d =>
      rw [hd] at h
      simp only [List.foldl_cons, dgStep, hd]
      rw [ih _ _ _ h]
      simp
      omega
/-- The number that the reference holds against the text. -/
def dgVal (l : List UInt8) : Int := if l.head? = some 45 then -((dgs l).1 : Int) else ((dgs l).1 : Int)
theorem spec_prsI (l : List UInt8) (hl : l.length ≤ 10) (hk : (dgs l).2 ≤ 9) : prsI l = if Lib.itoa (dgVal l) = l then some (dgVal l) else none := by
  have h9 : (dgs l).1 < 1000000000 := by
    have h1 := (dgs_lt l).1
    have h2 := Nat.pow_le_pow_right (n := 10) (by decide) hk
    have e : (10 : Nat) ^ 9 = 1000000000 := by decide
    omega
  have hb : -999999999 ≤ dgVal l ∧ dgVal l ≤ 999999999 := by unfold dgVal; split <;> omega
  by_cases he : Lib.itoa (dgVal l) = l
  · rw [if_pos he]
    have := prsI_itoa hb.1 hb.2
    rwa [he] at this
  · rw [if_neg he]
    cases hp : prsI l with
    | none => rfl
    | some n =>
      exfalso
      obtain ⟨h1, h2, h3⟩ := prsI_some hp
      apply he
      have : dgVal l = n := by
        rw [h1]
        rcases itoa_cases n with ⟨u, rfl, h⟩ | ⟨u, hu, rfl, h⟩
        · rw [h]
          have hd := dgs_dec _ 0 u 0 (decFrom_dec u)
          unfold dgVal dgs
          rw [hd, if_neg]
          intro hh
          have : (45 : UInt8) ∈ Lib.decDigits u := by
            cases hx : Lib.decDigits u with
            | nil => rw [hx] at hh; simp at hh
            | cons b r => rw [hx] at hh; simp at hh; subst hh; simp
          have := dec_digit this
          simp at this
        · rw [h]
          have hd := dgs_dec _ 0 u 0 (decFrom_dec u)
          unfold dgVal dgs
          rw [if_pos (by simp), List.foldl_cons, show dgStep (0, 0) 45 = (0, 0) from rfl, hd]
      rw [this, ← h1]
theorem spec_prsI_many (l : List UInt8) (hk : ¬ (dgs l).2 ≤ 9) : prsI l = none := by
  cases hp : prsI l with
  | none => rfl
  | some n =>
    exfalso
    obtain ⟨h1, h2, h3⟩ := prsI_some hp
    apply hk
    rw [h1]
    rcases itoa_cases n with ⟨u, rfl, h⟩ | ⟨u, hu, rfl, h⟩
    · rw [h]
      have hd := dgs_dec _ 0 u 0 (decFrom_dec u)
      unfold dgs
      rw [hd, Lib.decDigits_length]
      have := nDigits_le_of_lt 9 u (by omega) (by omega)
      simpa using this
    · rw [h]
      have hd := dgs_dec _ 0 u 0 (decFrom_dec u)
      unfold dgs
      rw [List.foldl_cons, show dgStep (0, 0) 45 = (0, 0) from rfl, hd, Lib.decDigits_length]
      have := nDigits_le_of_lt 9 u (by omega) (by omega)
      simpa using this
end Go.Proofs.YtljggmgijadjaaaGreatDoor
