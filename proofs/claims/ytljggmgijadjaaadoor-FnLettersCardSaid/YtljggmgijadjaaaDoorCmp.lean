/- Contracts of CompareWords of both packages. -/
import Derived.Test.YtljggmgijadjaaaDoorInts
namespace Go.Proofs.YtljggmgijadjaaaDoor
open Go.RowKit Go.ChangeShapes Go.WideShapes Go.ChangeAt Go.Deep
set_option linter.unusedVariables false

def cmpI (a b : Int) : Int := if a < b then -1 else if b < a then 1 else 0
def cmpL : List Int → List Int → Int
  | [], [] => 0
  | [], _ :: _ => -1
  | _ :: _, [] => 1
  | x :: xs, y :: ys => if x < y then -1 else if y < x then 1 else cmpL xs ys
def cmpW (xs ys : List Int) : Int := if xs.length < ys.length then -1 else if ys.length < xs.length then 1 else cmpL xs ys
theorem cmpL_drop {xs ys : List Int} {k : Nat} (h1 : k < xs.length) (h2 : k < ys.length) : cmpL (xs.drop k) (ys.drop k) = if xs[k] < ys[k] then -1 else if ys[k] < xs[k] then 1 else cmpL (xs.drop (k + 1)) (ys.drop (k + 1)) := by
  rw [List.drop_eq_getElem_cons h1, List.drop_eq_getElem_cons h2]
  rfl
theorem cmpL_end {xs ys : List Int} {k : Nat} (h1 : xs.length ≤ k) (h2 : ys.length ≤ k) : cmpL (xs.drop k) (ys.drop k) = 0 := by
  rw [List.drop_of_length_le h1, List.drop_of_length_le h2]
  rfl
set_option maxRecDepth 4000 in
theorem isNaN_any (a : Int) (w : World) : Calls Tryd.prog 95 #[.int .i64 a] w fun e w' => e = .returned (.bool false) ∧ w = w' := by
  have hne : (a != a) = false := by simp
  go_enter Tryd.func95, Tryd.ntmps95
  go_wp2
  go_ret
  exact ⟨rfl, rfl⟩
set_option maxRecDepth 4000 in
theorem cmpCompare_any (a b : Int) (w : World) : Calls Tryd.prog 82 #[.int .i64 a, .int .i64 b] w fun e w' => e = .returned (.int .i64 (cmpI a b)) ∧ w = w' := by
  rcases Int.lt_trichotomy a b with h | h | h
  · have hE : cmpI a b = -1 := by unfold cmpI; rw [if_pos h]
    rw [hE]; clear hE
    go_enter Tryd.func82, Tryd.ntmps82
    go_wp2_with (go_at_call 95; refine (isNaN_any _ _).mono ?_; rintro e w' ⟨rfl, rfl⟩)
    go_ret
    exact ⟨rfl, rfl⟩
  · have hE : cmpI a b = 0 := by unfold cmpI; rw [if_neg (by omega), if_neg (by omega)]
    rw [hE]; clear hE
    go_enter Tryd.func82, Tryd.ntmps82
    go_wp2_with (go_at_call 95; refine (isNaN_any _ _).mono ?_; rintro e w' ⟨rfl, rfl⟩)
    go_ret
    exact ⟨rfl, rfl⟩
  · have hE : cmpI a b = 1 := by unfold cmpI; rw [if_neg (by omega), if_pos h]
    rw [hE]; clear hE
    go_enter Tryd.func82, Tryd.ntmps82
    go_wp2_with (go_at_call 95; refine (isNaN_any _ _).mono ?_; rintro e w' ⟨rfl, rfl⟩)
    go_ret
    exact ⟨rfl, rfl⟩
set_option maxRecDepth 4000 in
set_option maxHeartbeats 1000000 in
theorem l2Cmp_any (A B : Option Addr) (n c d : Nat) (xs ys : List Int) (w : World) (hl : xs.length = n) (hl2 : ys.length = n) (hn : n ≤ 2000000) (hr : Reads w w.heap.size 1 A n (xs.map iv)) (hr2 : Reads w w.heap.size 1 B n (ys.map iv)) :
    Calls Tryd.prog 63 #[.slice A n c, .slice B n d] w fun e w' => e = .returned (.int .i64 (cmpL xs ys)) ∧ Below w.heap.size w w' := by
  go_enter Tryd.func63, Tryd.ntmps63
  go_wp2
  go_loopw [5] (fun i wr => ∃ k : Nat, k ≤ n ∧ i = .int .i64 k ∧ cmpL (xs.drop k) (ys.drop k) = cmpL xs ys ∧ ∃ q, wr = w.drewN q) (fun i _ => n - (intOf i).toNat)
  case atStart => exact ⟨0, Nat.zero_le _, rfl, rfl, 0, rfl⟩
  case round =>
    obtain ⟨k, hk, rfl, htk, q, rfl⟩ := hrel
    have HT := Lib.hid htk
    clear htk
    by_cases hlt : k < n
    · obtain ⟨ad, u, rfl, had, hu, hc⟩ := hr.at_ hlt
      obtain ⟨bd, u2, rfl, hbd, hu2, hc2⟩ := hr2.at_ hlt
      have hv := iv_get hu (by omega)
      have hv2 := iv_get hu2 (by omega)
      have hD := cmpL_drop (xs := xs) (ys := ys) (k := k) (by omega) (by omega)
      obtain ⟨x, hx⟩ : ∃ x, xs[k]'(by omega) = x := ⟨_, rfl⟩
      obtain ⟨y, hy⟩ : ∃ y, ys[k]'(by omega) = y := ⟨_, rfl⟩
      rw [hx, hy, HT.out] at hD
      rw [hx] at hv
      rw [hy] at hv2
      have HD := Lib.hid hD
      subst hv
      subst hv2
      unfold iv at hc hc2
      have hlt' : (k : Int) < n := by omega
      clear hu hu2 hx hy HT hD
      rcases Int.lt_trichotomy x y with h | h | h
      · have hE : cmpL xs ys = -1 := by rw [HD.out, if_pos h]
        have HE := Lib.hid hE
        have h1 : decide (x < y) = true := by simpa using h
        clear HD hE
        go_wp2
        go_quiet (fail)
        go_wp2
        go_ret
        exact ⟨by rw [HE.out] <;> rfl, by repeat (first | exact Below.refl _ _ | refine below_drewN ?_ _)⟩
      · have hE : cmpL (xs.drop (k + 1)) (ys.drop (k + 1)) = cmpL xs ys := by rw [HD.out, if_neg (by omega), if_neg (by omega)]
        have HE := Lib.hid hE
        have h1 : decide (x < y) = false := by simp; omega
        have h2 : decide (y < x) = false := by simp; omega
        clear HD hE
        go_wp2
        go_quiet (fail)
        go_wp2
        go_quiet (fail)
        go_wp2
        go_roundw
        case rel => exact ⟨k + 1, by omega, by go_num, HE.out, _, rfl⟩
        case measure => simp [intOf]; omega
      · have hE : cmpL xs ys = 1 := by rw [HD.out, if_neg (by omega), if_pos h]
        have HE := Lib.hid hE
        have h1 : decide (x < y) = false := by simp; omega
        have h2 : decide (y < x) = true := by simpa using h
        clear HD hE
        go_wp2
        go_quiet (fail)
        go_wp2
        go_quiet (fail)
        go_wp2
        go_ret
        exact ⟨by rw [HE.out] <;> rfl, by repeat (first | exact Below.refl _ _ | refine below_drewN ?_ _)⟩
    · obtain rfl : k = n := by omega
      have hE : cmpL xs ys = 0 := by rw [← HT.out, cmpL_end (by omega) (by omega)]
      have HE := Lib.hid hE
      clear hE HT
      go_wp2
      go_ret
      exact ⟨by rw [HE.out] <;> rfl, by repeat (first | exact Below.refl _ _ | refine below_drewN ?_ _)⟩
set_option maxRecDepth 4000 in
set_option maxHeartbeats 1000000 in
theorem slicesCompare_any (A B : Option Addr) (n c d : Nat) (xs ys : List Int) (w : World) (hl : xs.length = n) (hl2 : ys.length = n) (hn : n ≤ 2000000) (hr : Reads w w.heap.size 1 A n (xs.map iv)) (hr2 : Reads w w.heap.size 1 B n (ys.map iv)) :
    Calls Tryd.prog 62 #[.slice A n c, .slice B n d] w fun e w' => e = .returned (.int .i64 (cmpL xs ys)) ∧ Below w.heap.size w w' := by
  go_enter Tryd.func62, Tryd.ntmps62
  go_wp2
  go_loop [11] (fun i => ∃ k : Nat, k ≤ n ∧ i = .int .i64 k ∧ cmpL (xs.drop k) (ys.drop k) = cmpL xs ys) (fun i => n - (intOf i).toNat)
  case atStart => exact ⟨0, Nat.zero_le _, rfl, rfl⟩
  case round =>
    obtain ⟨k, hk, rfl, htk⟩ := hrel
    have HT := Lib.hid htk
    clear htk
    by_cases hlt : k < n
    · obtain ⟨ad, u, rfl, had, hu, hc⟩ := hr.at_ hlt
      obtain ⟨bd, u2, rfl, hbd, hu2, hc2⟩ := hr2.at_ hlt
      have hv := iv_get hu (by omega)
      have hv2 := iv_get hu2 (by omega)
      have hD := cmpL_drop (xs := xs) (ys := ys) (k := k) (by omega) (by omega)
      obtain ⟨x, hx⟩ : ∃ x, xs[k]'(by omega) = x := ⟨_, rfl⟩
      obtain ⟨y, hy⟩ : ∃ y, ys[k]'(by omega) = y := ⟨_, rfl⟩
      rw [hx, hy, HT.out] at hD
      rw [hx] at hv
      rw [hy] at hv2
      have HD := Lib.hid hD
      subst hv
      subst hv2
      unfold iv at hc hc2
      have hlt' : (k : Int) < n := by omega
      clear hu hu2 hx hy HT hD
      rcases Int.lt_trichotomy x y with h | h | h
      · have hE : cmpL xs ys = -1 := by rw [HD.out, if_pos h]
        have hc0 : cmpI x y = -1 := by unfold cmpI; rw [if_pos h]
        have HE := Lib.hid hE
        clear HD hE
        go_wp2_with (go_at_call 82; refine (cmpCompare_any _ _ _).mono ?_; rintro e w' ⟨rfl, rfl⟩; rw [hc0])
        go_ret
        exact ⟨by rw [HE.out] <;> rfl, Below.refl _ _⟩
      · have hE : cmpL (xs.drop (k + 1)) (ys.drop (k + 1)) = cmpL xs ys := by rw [HD.out, if_neg (by omega), if_neg (by omega)]
        have HE := Lib.hid hE
        subst h
        have hc0 : cmpI x x = 0 := by unfold cmpI; rw [if_neg (by omega), if_neg (by omega)]
        clear hE
        go_wp2_with (go_at_call 82; refine (cmpCompare_any _ _ _).mono ?_; rintro e w' ⟨rfl, rfl⟩; rw [hc0])
        go_round
        case rel => exact ⟨k + 1, by omega, by go_num, HE.out⟩
        case measure => simp [intOf]; omega
      · have hE : cmpL xs ys = 1 := by rw [HD.out, if_neg (by omega), if_pos h]
        have hc0 : cmpI x y = 1 := by unfold cmpI; rw [if_neg (by omega), if_pos h]
        have HE := Lib.hid hE
        clear HD hE
        go_wp2_with (go_at_call 82; refine (cmpCompare_any _ _ _).mono ?_; rintro e w' ⟨rfl, rfl⟩; rw [hc0])
        go_ret
        exact ⟨by rw [HE.out] <;> rfl, Below.refl _ _⟩
    · obtain rfl : k = n := by omega
      have hE : cmpL xs ys = 0 := by rw [← HT.out, cmpL_end (by omega) (by omega)]
      have HE := Lib.hid hE
      clear hE HT
      go_wp2
      go_ret
      exact ⟨by rw [HE.out] <;> rfl, Below.refl _ _⟩
set_option maxRecDepth 4000 in
set_option maxHeartbeats 1000000 in
theorem specCmp_any (A B : Option Addr) (n c m d : Nat) (xs ys : List Int) (w : World) (hl : xs.length = n) (hl2 : ys.length = m) (hn : n ≤ 2000000) (hm : m ≤ 2000000) (hr : Reads w w.heap.size 1 A n (xs.map iv)) (hr2 : Reads w w.heap.size 1 B m (ys.map iv)) :
    Calls Tryd.prog 22 #[.slice A n c, .slice B m d] w fun e w' => e = .returned (.int .i64 (cmpW xs ys)) ∧ Below w.heap.size w w' := by
  rcases Nat.lt_trichotomy n m with h | h | h
  · have hE : cmpW xs ys = -1 := by unfold cmpW; rw [hl, hl2, if_pos h]
    rw [hE]; clear hE
    go_enter Tryd.func22, Tryd.ntmps22
    go_wp2
    go_ret
    exact ⟨rfl, Below.refl _ _⟩
  · subst h
    have hE : cmpW xs ys = cmpL xs ys := by unfold cmpW; rw [hl, hl2, if_neg (by omega), if_neg (by omega)]
    rw [hE]; clear hE
    go_enter Tryd.func22, Tryd.ntmps22
    go_wp2_with fail
    refine (l2Cmp_any A B n c d xs ys _ hl hl2 hn hr hr2).mono ?_
    rintro e w1 ⟨rfl, hb1⟩
    go_wp2
    go_ret
    exact ⟨rfl, hb1⟩
  · have hE : cmpW xs ys = 1 := by unfold cmpW; rw [hl, hl2, if_neg (by omega), if_pos h]
    rw [hE]; clear hE
    go_enter Tryd.func22, Tryd.ntmps22
    go_wp2
    go_ret
    exact ⟨rfl, Below.refl _ _⟩
set_option maxRecDepth 4000 in
set_option maxHeartbeats 1000000 in
theorem implCmp_any (A B : Option Addr) (n c m d : Nat) (xs ys : List Int) (w : World) (hl : xs.length = n) (hl2 : ys.length = m) (hn : n ≤ 2000000) (hm : m ≤ 2000000) (hr : Reads w w.heap.size 1 A n (xs.map iv)) (hr2 : Reads w w.heap.size 1 B m (ys.map iv)) :
    Calls Tryd.prog 21 #[.slice A n c, .slice B m d] w fun e w' => e = .returned (.int .i64 (cmpW xs ys)) ∧ Below w.heap.size w w' := by
  rcases Nat.lt_trichotomy n m with h | h | h
  · have hE : cmpW xs ys = -1 := by unfold cmpW; rw [hl, hl2, if_pos h]
    rw [hE]; clear hE
    go_enter Tryd.func21, Tryd.ntmps21
    go_wp2
    go_ret
    exact ⟨rfl, Below.refl _ _⟩
  · subst h
    have hE : cmpW xs ys = cmpL xs ys := by unfold cmpW; rw [hl, hl2, if_neg (by omega), if_neg (by omega)]
    rw [hE]; clear hE
    go_enter Tryd.func21, Tryd.ntmps21
    go_wp2_with fail
    refine (slicesCompare_any A B n c d xs ys _ hl hl2 hn hr hr2).mono ?_
    rintro e w1 ⟨rfl, hb1⟩
    go_wp2
    go_ret
    exact ⟨rfl, hb1⟩
  · have hE : cmpW xs ys = 1 := by unfold cmpW; rw [hl, hl2, if_neg (by omega), if_pos h]
    rw [hE]; clear hE
    go_enter Tryd.func21, Tryd.ntmps21
    go_wp2
    go_ret
    exact ⟨rfl, Below.refl _ _⟩
end Go.Proofs.YtljggmgijadjaaaDoor
