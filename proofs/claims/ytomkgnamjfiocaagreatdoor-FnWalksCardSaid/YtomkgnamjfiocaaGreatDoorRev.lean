/- Contracts of ReverseWord of both packages. -/
import Derived.Test.YtomkgnamjfiocaaGreatDoorBaseA
namespace Go.Proofs.YtomkgnamjfiocaaGreatDoor
open Go.RowKit Go.ChangeShapes Go.WideShapes Go.ChangeAt Go.Deep
set_option linter.unusedVariables false

def revW (xs : List Int) : List Int := xs.reverse.map invL
theorem revW_len (xs : List Int) : (revW xs).length = xs.length := by simp [revW]
theorem revW_at (xs : List Int) (p : Nat) (hp : p < xs.length) : (revW xs)[xs.length - (p + 1)]'(by rw [revW_len]; omega) = invL xs[p] := by
  simp only [revW, List.getElem_map, List.getElem_reverse]
  congr 2
  omega
theorem own_snoc_iv {w : World} {base n : Nat} {e : TypeId} {v x : Value} {xs : List Int} (y : Int) (hx : x = iv y) (hn : n < xs.length) (hy : xs[n] = y) (h : w.ownsRow base e 1 v (n + 1) ((xs.take n).map iv ++ #[x].toList)) :
    w.ownsRow base e 1 v (n + 1) ((xs.take (n + 1)).map iv) := by
  subst hx
  subst hy
  rw [List.take_succ_eq_append_getElem hn, List.map_append]
  exact h
set_option maxRecDepth 4000 in
set_option maxHeartbeats 1000000 in
theorem specRev_any (A : Option Addr) (n c : Nat) (xs : List Int) (w : World) (hl : xs.length = n) (hn : n ≤ 2000000) (hr : Reads w w.heap.size 1 A n (xs.map iv)) :
    Calls Tryz.prog 19 #[.slice A n c] w fun e w' => ∃ v, e = .returned v ∧ w'.ownsRow w.heap.size 3 1 v n ((revW xs).map iv) ∧ Below w.heap.size w w' := by
  have hrl := revW_len xs
  go_enter Tryz.func19, Tryz.ntmps19
  go_wp2
  go_loopw [3, 4] (fun v i wr => ∃ p q : Nat, p + q = n ∧ i = .int .i64 ((p : Int) - 1) ∧ wr.ownsRow w.heap.size 3 1 v q (((revW xs).take q).map iv) ∧ Below w.heap.size w wr) (fun _ i _ => (intOf i + 1).toNat)
  case atStart =>
    refine ⟨n, 0, by omega, rfl, ?_, (Below.refl _ _).alloc (Nat.le_refl _) _⟩
    exact World.ownsRow_made _ _ _ (Nat.le_refl _) (by simp [maxLen]) (by simp)
  case round =>
    obtain ⟨p, q, hpq, hi, hown, hbel⟩ := hrel
    have hsz := hbel.size
    rcases Nat.eq_zero_or_pos p with rfl | hp
    · obtain rfl : q = n := by omega
      subst hi
      rw [List.take_of_length_le (by omega)] at hown
      go_wp2
      go_ret
      exact ⟨_, rfl, hown, hbel⟩
    · obtain ⟨r, rfl⟩ : ∃ r, p = r + 1 := ⟨p - 1, by omega⟩
      have hii : ((r + 1 : Nat) : Int) - 1 = (r : Int) := by omega
      rw [hii] at hi
      subst hi
      clear hii
      have hlt : r < n := by omega
      obtain ⟨ad, u, rfl, had, hu, hc⟩ := hr.at_ hlt
      have hv := iv_get hu (by omega)
      obtain ⟨x, hx⟩ : ∃ x, xs[r]'(by omega) = x := ⟨_, rfl⟩
      rw [hx] at hv
      subst hv
      have hc2 : wr.cell? (ad.add r) = some (.int .i64 x) := (hbel.cell (by rw [block_of_add]; exact had)).trans hc
      have hat : (revW xs)[q]'(by omega) = invL x := by
        rw [← hx, ← revW_at xs r (by omega)]
        congr 1
        omega
      have HA := Lib.hid hat
      have q1 : Small (q + 1) := small_of (by omega)
      clear hc hu hx hat
      go_wp2_with (first
        | (go_at_call 48; refine (specInverse_any _ _).mono ?_; rintro e w' ⟨rfl, rfl⟩)
        | (at_builtin; refine ap_plain _ app_int (by decide) w.heap.size (.tmp 13) (.tmp 19) rfl rfl _ _ _ rfl (hown.alloc _) _ _ 1 1 _ rfl (reads_new _ rfl) (one_cell rfl) q1 (Nat.le_trans hsz (by simp)) ?_; intro v' w1 hown1 hg1 hat1; clear hat1; have hb1 := below_grown_own (hbel.alloc hsz _) (hown.alloc _) hg1 (Nat.le_refl _) (Nat.le_trans hsz (by simp)); clear hg1; replace hown1 := own_snoc_iv (invL x) rfl (by omega) HA.out hown1))
      go_roundw
      case rel => exact ⟨r, q + 1, by omega, rfl, hown1, hb1⟩
      case measure => simp [intOf]
end Go.Proofs.YtomkgnamjfiocaaGreatDoor
