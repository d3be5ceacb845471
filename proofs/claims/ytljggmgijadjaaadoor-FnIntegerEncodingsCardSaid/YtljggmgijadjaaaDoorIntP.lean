/- Numbers written and read back: plain facts, no program: varints, fixed widths, hexadecimal texts. -/
import Derived.Test.YtljggmgijadjaaaDoorDec
import Derived.Test.YtljggmgijadjaaaDoorVrDecV
import Derived.Test.YtljggmgijadjaaaDoorVrEncF
import Derived.Test.YtljggmgijadjaaaDoorFxFix
import Derived.Test.YtljggmgijadjaaaDoorHxDecH
namespace Go.Proofs.YtljggmgijadjaaaDoor
open Go.RowKit Go.ChangeShapes Go.WideShapes Go.ChangeAt Go.Deep
set_option linter.unusedVariables false
theorem encV_pos' (n : Int) : (Vr.encVarint n ≠ [] ↔ 0 ≤ n ∧ n ≤ 562949953421311) := by
  unfold Vr.encVarint
  by_cases h : inB n 0 562949953421311 = true
  · rw [if_pos h]
    have := Vr.encV_pos n.toNat
    have h' := inB_true.1 h
    exact ⟨fun _ => h', fun _ e => by rw [e] at this; simp at this⟩
  · rw [if_neg h]
    exact ⟨fun h => absurd rfl h, fun h' => absurd (inB_true.2 h') h⟩
theorem leN_encV (n : Nat) : Vr.leN (Vr.encV n) = n := by
  induction n using Nat.strongRecOn with
  | _ n ih =>
    by_cases h : 128 ≤ n
    · rw [Vr.encV_big h, Vr.leN_cons, ih (n / 128) (Nat.div_lt_self (by omega) (by decide)), UInt8.toNat_ofNat']
      omega
    · rw [Vr.encV_small (by omega), Vr.leN_cons, UInt8.toNat_ofNat']
      simp [Vr.leN]
      omega
theorem var_back {n : Int} (h0 : 0 ≤ n) (h1 : n ≤ 562949953421311) (t : List UInt8) :
    (Vr.decVN (Vr.encVarint n ++ t) : Int) = n ∧ Vr.decVK (Vr.encVarint n ++ t) = (Vr.encVarint n).length := by
  obtain ⟨u, rfl⟩ : ∃ u : Nat, n = u := ⟨n.toNat, by omega⟩
  rw [Vr.encVar_nat (by omega)]
  have hp := Vr.encV_pos u
  have h7 := Vr.encV_len7 u (by omega)
  have ht : (Vr.encV u ++ t).take (Vr.encV u).length = Vr.encV u := by simp
  have hk : Vr.okV (Vr.encV u ++ t) (Vr.encV u).length := by unfold Vr.okV; rw [ht, leN_encV]
  obtain ⟨a, b⟩ := Vr.decV_hit (l := Vr.encV u ++ t) hp h7 (by simp) hk
  rw [a, b, ht, leN_encV]
  exact ⟨rfl, rfl⟩
theorem bigE_encF : ∀ (k n : Nat), n < 256 ^ k → Fx.bigE (Vr.encF n k) = n
  | 0, n, h => by simp at h; subst h; rfl
  | k + 1, n, h => by
    rw [Vr.encF, Fx.bigE_snoc, bigE_encF k (n / 256) (by rw [Nat.pow_succ] at h; omega), UInt8.toNat_ofNat']
    omega
theorem fix_back {n m : Int} (h : Vr.encFixed n m ≠ []) (t : List UInt8) :
    Fx.decFB (Vr.encFixed n m ++ t) m = true ∧ Fx.decFN (Vr.encFixed n m ++ t) m = n ∧ ((Vr.encFixed n m).length : Int) = m := by
  by_cases hc : inB m 1 7 = true ∧ 0 ≤ n ∧ n.toNat < 256 ^ m.toNat
  · obtain ⟨hm, h0, hn⟩ := hc
    have hm' := inB_true.1 hm
    have he : Vr.encFixed n m = Vr.encF n.toNat m.toNat := by unfold Vr.encFixed; rw [if_pos ⟨hm, h0, hn⟩]
    have hl := Vr.encF_len m.toNat n.toNat
    have ht : (Vr.encF n.toNat m.toNat ++ t).take m.toNat = Vr.encF n.toNat m.toNat := by
      have := List.take_left (l₁ := Vr.encF n.toNat m.toNat) (l₂ := t)
      rwa [hl] at this
    have hle : m ≤ ((Vr.encF n.toNat m.toNat ++ t).length : Int) := by simp [hl]; omega
    rw [he]
    unfold Fx.decFB Fx.decFN
    rw [if_pos ⟨hm, hle⟩, ht, bigE_encF _ _ hn]
    exact ⟨by simp [hm]; simpa using hle, by omega, by omega⟩
  · exfalso
    apply h
    unfold Vr.encFixed
    rw [if_neg hc]
theorem hex_back : ∀ (l : List UInt8), Hx.decH (Hx.encHex l) = some l
  | [] => rfl
  | c :: l => by
    have ih := hex_back l
    have hc := c.toNat_lt
    have e : Hx.encHex (c :: l) = Hx.hexD (c.toNat / 16) :: Hx.hexD (c.toNat % 16) :: Hx.encHex l := by simp [Hx.encHex]
    rw [e, Hx.decH, Hx.nibI_hex _ (by omega), Hx.nibI_hex _ (by omega), if_neg (by omega), ih]
    have : UInt8.ofNat (16 * ((c.toNat : Int) / 16) + (c.toNat : Int) % 16).toNat = c := by
      apply UInt8.toNat_inj.1
      rw [UInt8.toNat_ofNat']
      omega
    simp [this]
end Go.Proofs.YtljggmgijadjaaaDoor
