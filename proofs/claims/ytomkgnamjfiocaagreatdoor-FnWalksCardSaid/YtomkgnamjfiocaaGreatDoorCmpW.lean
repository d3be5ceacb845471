/- CompareWalks of both packages. -/
import Derived.Test.YtomkgnamjfiocaaGreatDoorBaseA
namespace Go.Proofs.YtomkgnamjfiocaaGreatDoor
open Go.RowKit Go.ChangeShapes Go.WideShapes Go.ChangeAt Go.Deep
set_option linter.unusedVariables false
def cmpN (a b : Int) : Int := if a < b then -1 else if b < a then 1 else 0
def cmpSt (a b : St) : Int := if a.ed < b.ed then -1 else if b.ed < a.ed then 1 else if a.inv = b.inv then 0 else if b.inv then -1 else 1
def cmpStL : List St → List St → Int
  | [], [] => 0
  | [], _ :: _ => -1
  | _ :: _, [] => 1
  | x :: xs, y :: ys => if cmpSt x y = 0 then cmpStL xs ys else cmpSt x y
def cmpWk (s : Int) (l : List St) (s' : Int) (l' : List St) : Int := if l.length < l'.length then -1 else if l'.length < l.length then 1 else if s < s' then -1 else if s' < s then 1 else cmpStL l l'
theorem cmpStL_drop {xs ys : List St} {k : Nat} {x y : St} (h1 : xs[k]? = some x) (h2 : ys[k]? = some y) : cmpStL (xs.drop k) (ys.drop k) = if cmpSt x y = 0 then cmpStL (xs.drop (k + 1)) (ys.drop (k + 1)) else cmpSt x y := by
  obtain ⟨k1, rfl⟩ := List.getElem?_eq_some_iff.1 h1
  obtain ⟨k2, rfl⟩ := List.getElem?_eq_some_iff.1 h2
  rw [List.drop_eq_getElem_cons k1, List.drop_eq_getElem_cons k2]
  rfl
theorem cmpStL_end {xs ys : List St} {k : Nat} (h1 : xs.length ≤ k) (h2 : ys.length ≤ k) : cmpStL (xs.drop k) (ys.drop k) = 0 := by
  rw [List.drop_of_length_le h1, List.drop_of_length_le h2]
  rfl
set_option maxRecDepth 4000 in
theorem compareInts_any (a b : Int) (w : World) : Calls Tryz.prog 52 #[.int .i64 a, .int .i64 b] w fun e w' => e = .returned (.int .i64 (cmpN a b)) ∧ w = w' := by
  rcases Int.lt_trichotomy a b with h | h | h
  · have hE : cmpN a b = -1 := by unfold cmpN; rw [if_pos h]
    rw [hE]; clear hE
    go_enter Tryz.func52, Tryz.ntmps52
    go_wp2
    go_ret
    exact ⟨rfl, rfl⟩
  · have hE : cmpN a b = 0 := by unfold cmpN; rw [if_neg (by omega), if_neg (by omega)]
    rw [hE]; clear hE
    go_enter Tryz.func52, Tryz.ntmps52
    go_wp2
    go_ret
    exact ⟨rfl, rfl⟩
  · have hE : cmpN a b = 1 := by unfold cmpN; rw [if_neg (by omega), if_pos h]
    rw [hE]; clear hE
    go_enter Tryz.func52, Tryz.ntmps52
    go_wp2
    go_ret
    exact ⟨rfl, rfl⟩
set_option maxRecDepth 4000 in
set_option maxHeartbeats 400000 in
theorem compareSteps_any (a b : St) (w : World) : Calls Tryz.prog 54 #[.agg #[.int .i64 a.ed, .bool a.inv], .agg #[.int .i64 b.ed, .bool b.inv]] w fun e w' => e = .returned (.int .i64 (cmpSt a b)) ∧ Below w.heap.size w w' := by
  obtain ⟨x, p⟩ := a
  obtain ⟨y, q⟩ := b
  have hE : cmpSt ⟨x, p⟩ ⟨y, q⟩ = if x < y then -1 else if y < x then 1 else if p = q then 0 else if q then -1 else 1 := rfl
  have HE := Lib.hid hE
  clear hE
  by_cases hxy : x = y
  · subst hxy
    have hne : (x != x) = false := by simp
    cases p <;> cases q
    all_goals
      go_enter Tryz.func54, Tryz.ntmps54
      go_wp2
      go_ret
      exact ⟨by rw [HE.out, if_neg (by omega), if_neg (by omega)] <;> rfl, ((Below.refl _ _).alloc (Nat.le_refl _) _).alloc (by simp) _⟩
  · have hne : (x != y) = true := by simp [hxy]
    have hc : cmpSt ⟨x, p⟩ ⟨y, q⟩ = cmpN x y := by
      rw [HE.out]
      unfold cmpN
      split
      · rfl
      · rw [if_pos (by omega), if_pos (by omega)]
    have HC := Lib.hid hc
    clear hxy hc HE
    go_enter Tryz.func54, Tryz.ntmps54
    go_wp2_with (go_at_call 52; refine (compareInts_any _ _ _).mono ?_; rintro e w' ⟨rfl, rfl⟩)
    go_ret
    exact ⟨by rw [HC.out] <;> rfl, ((Below.refl _ _).alloc (Nat.le_refl _) _).alloc (by simp) _⟩
set_option maxRecDepth 4000 in
set_option maxHeartbeats 400000 in
theorem l5Step_any (a b : St) (w : World) : Calls Tryz.prog 42 #[.agg #[.int .i64 a.ed, .bool a.inv], .agg #[.int .i64 b.ed, .bool b.inv]] w fun e w' => e = .returned (.int .i64 (cmpSt a b)) ∧ Below w.heap.size w w' := by
  obtain ⟨x, p⟩ := a
  obtain ⟨y, q⟩ := b
  have hE : cmpSt ⟨x, p⟩ ⟨y, q⟩ = if x < y then -1 else if y < x then 1 else if p = q then 0 else if q then -1 else 1 := rfl
  have HE := Lib.hid hE
  clear hE
  rcases Int.lt_trichotomy x y with h | h | h
  · have hc : cmpSt ⟨x, p⟩ ⟨y, q⟩ = -1 := by rw [HE.out, if_pos h]
    have HC := Lib.hid hc
    clear hc HE
    go_enter Tryz.func42, Tryz.ntmps42
    go_wp2
    go_ret
    exact ⟨by rw [HC.out] <;> rfl, ((Below.refl _ _).alloc (Nat.le_refl _) _).alloc (by simp) _⟩
  · subst h
    cases p <;> cases q
    all_goals
      go_enter Tryz.func42, Tryz.ntmps42
      go_wp2
      go_ret
      exact ⟨by rw [HE.out, if_neg (by omega), if_neg (by omega)] <;> rfl, ((Below.refl _ _).alloc (Nat.le_refl _) _).alloc (by simp) _⟩
  · have hc : cmpSt ⟨x, p⟩ ⟨y, q⟩ = 1 := by rw [HE.out, if_neg (by omega), if_pos h]
    have HC := Lib.hid hc
    clear hc HE
    go_enter Tryz.func42, Tryz.ntmps42
    go_wp2
    go_ret
    exact ⟨by rw [HC.out] <;> rfl, ((Below.refl _ _).alloc (Nat.le_refl _) _).alloc (by simp) _⟩
set_option maxRecDepth 4000 in
set_option maxHeartbeats 1000000 in
theorem compareFunc_any (w : World) {A B : Option Addr} {n c d : Nat} {xs ys : List St} (h : SRd w A n xs) (k0 : SRd w B n ys) :
    Calls Tryz.prog 53 #[.slice A n c, .slice B n d, .func (Fn.func 54) #[] #[]] w fun e w' => e = .returned (.int .i64 (cmpStL xs ys)) ∧ Below w.heap.size w w' := by
  have hn := h.bd
  have HL1 := Lib.hid h.ln
  have HL2 := Lib.hid k0.ln
  go_enter Tryz.func53, Tryz.ntmps53
  go_wp2
  go_loopw [13] (fun i wr => ∃ k : Nat, k ≤ n ∧ i = .int .i64 k ∧ cmpStL (xs.drop k) (ys.drop k) = cmpStL xs ys ∧ Below w.heap.size w wr) (fun i _ => n - (intOf i).toNat)
  case atStart => exact ⟨0, Nat.zero_le _, rfl, rfl, Below.refl _ _⟩
  case round =>
    obtain ⟨k, hk, rfl, htk, hbel⟩ := hrel
    have HT := Lib.hid htk
    clear htk
    by_cases hlt : k < n
    · obtain ⟨b, o, rfl, had, x, hx, c0, c1⟩ := step_at (h.up hbel).rd HL1.out hlt
      obtain ⟨b2, o2, rfl, had2, y, hy, d0, d1⟩ := step_at (k0.up hbel).rd HL2.out hlt
      have hD := cmpStL_drop hx hy
      rw [HT.out] at hD
      obtain ⟨z, hz⟩ : ∃ z, cmpSt x y = z := ⟨_, rfl⟩
      rw [hz] at hD
      have HD := Lib.hid hD
      have HZ := Lib.hid hz
      have hn1 : b2 ≠ wr.heap.size := by omega
      clear hx hy hD hz HT
      obtain ⟨xe, xi⟩ := x
      obtain ⟨ye, yi⟩ := y
      dsimp only at c0 c1 d0 d1
      have hb2 : Below wr.heap.size wr ((wr.alloc (.cells #[.int .i64 xe, .bool xi] 68)).alloc (.cells #[.int .i64 ye, .bool yi] 68)) := ((Below.refl _ _).alloc (Nat.le_refl _) _).alloc (by simp) _
      have hB2 := below_then hbel hb2
      cases hq : (z != 0)
      · have hz0 : z = 0 := by simpa using hq
        have hE : cmpStL xs ys = cmpStL (xs.drop (k + 1)) (ys.drop (k + 1)) := by rw [HD.out, if_pos hz0]
        have HE := Lib.hid hE
        clear hE hz0
        go_wp2_with (go_at_call 54; refine (compareSteps_any ⟨xe, xi⟩ ⟨ye, yi⟩ _).mono ?_; rw [HZ.out]; rintro r w3 ⟨rfl, hb3⟩)
        go_roundw
        case rel => exact ⟨k + 1, by omega, by go_num, HE.out.symm, below_then hB2 hb3⟩
        case measure => simp [intOf]; omega
      · have hz0 : ¬ z = 0 := by simpa using hq
        have hE : cmpStL xs ys = z := by rw [HD.out, if_neg hz0]
        have HE := Lib.hid hE
        clear hE hz0
        go_wp2_with (go_at_call 54; refine (compareSteps_any ⟨xe, xi⟩ ⟨ye, yi⟩ _).mono ?_; rw [HZ.out]; rintro r w3 ⟨rfl, hb3⟩)
        go_ret
        exact ⟨by rw [HE.out] <;> rfl, below_then hB2 hb3⟩
    · obtain rfl : k = n := by omega
      have hE : cmpStL xs ys = 0 := by rw [← HT.out, cmpStL_end (by have := HL1.out; omega) (by have := HL2.out; omega)]
      have HE := Lib.hid hE
      clear hE HT
      go_wp2
      go_ret
      exact ⟨by rw [HE.out] <;> rfl, hbel⟩
theorem cmpWk_cases (s : Int) (l : List St) (s' : Int) (l' : List St) :
    (l.length < l'.length ∧ cmpWk s l s' l' = -1) ∨ (l'.length < l.length ∧ cmpWk s l s' l' = 1) ∨ (l.length = l'.length ∧ s < s' ∧ cmpWk s l s' l' = -1) ∨ (l.length = l'.length ∧ s' < s ∧ cmpWk s l s' l' = 1) ∨ (l.length = l'.length ∧ s = s' ∧ cmpWk s l s' l' = cmpStL l l') := by
  unfold cmpWk
  rcases Nat.lt_trichotomy l.length l'.length with h | h | h
  · exact .inl ⟨h, if_pos h⟩
  · rw [if_neg (by omega), if_neg (by omega)]
    rcases Int.lt_trichotomy s s' with h2 | h2 | h2
    · exact .inr (.inr (.inl ⟨h, h2, if_pos h2⟩))
    · exact .inr (.inr (.inr (.inr ⟨h, h2, by rw [if_neg (by omega), if_neg (by omega)]⟩)))
    · exact .inr (.inr (.inr (.inl ⟨h, h2, by rw [if_neg (by omega), if_pos h2]⟩)))
  · exact .inr (.inl ⟨h, by rw [if_neg (by omega), if_pos h]⟩)
theorem cmpN_lt {a b : Int} (h : a < b) : cmpN a b = -1 := if_pos h
theorem cmpN_gt {a b : Int} (h : b < a) : cmpN a b = 1 := by unfold cmpN; rw [if_neg (by omega), if_pos h]
theorem cmpN_eq (a : Int) : cmpN a a = 0 := by unfold cmpN; rw [if_neg (by omega), if_neg (by omega)]
set_option maxRecDepth 4000 in
set_option maxHeartbeats 1000000 in
theorem implCompareWalks_is (w : World) {A B : Option Addr} {n c m d : Nat} (s : Int) {l : List St} (h : SRd w A n l) (s' : Int) {l' : List St} (h' : SRd w B m l') :
    Calls Tryz.prog 21 #[.agg #[.int .i64 s, .slice A n c], .agg #[.int .i64 s', .slice B m d]] w fun e w' => e = .returned (.int .i64 (cmpWk s l s' l')) ∧ Below w.heap.size w w' := by
  have hn := h.bd
  have hm := h'.bd
  have hc := cmpWk_cases s l s' l'
  have ln := h.ln
  have lm := h'.ln
  have hB0 : Below w.heap.size w ((w.alloc (.cells #[.int .i64 s, .slice A n c] 30)).alloc (.cells #[.int .i64 s', .slice B m d] 30)) := ((Below.refl _ _).alloc (Nat.le_refl _) _).alloc (by simp) _
  rcases hc with ⟨h1, h2⟩ | ⟨h1, h2⟩ | ⟨h1, h3, h2⟩ | ⟨h1, h3, h2⟩ | ⟨h1, h3, h2⟩
  · have HN := Lib.hid (cmpN_lt (show (n : Int) < m by omega))
    have HE := Lib.hid h2
    clear h1 h2 ln lm
    go_enter Tryz.func21, Tryz.ntmps21
    go_wp2_with (go_at_call 52; refine (compareInts_any _ _ _).mono ?_; rw [HN.out]; rintro e w' ⟨rfl, rfl⟩)
    go_ret
    exact ⟨by rw [HE.out] <;> rfl, hB0⟩
  · have HN := Lib.hid (cmpN_gt (show (m : Int) < n by omega))
    have HE := Lib.hid h2
    clear h1 h2 ln lm
    go_enter Tryz.func21, Tryz.ntmps21
    go_wp2_with (go_at_call 52; refine (compareInts_any _ _ _).mono ?_; rw [HN.out]; rintro e w' ⟨rfl, rfl⟩)
    go_ret
    exact ⟨by rw [HE.out] <;> rfl, hB0⟩
  · obtain rfl : n = m := by omega
    have HN := Lib.hid (cmpN_eq (n : Int))
    have HM := Lib.hid (cmpN_lt h3)
    have HE := Lib.hid h2
    clear h1 h2 ln lm h3
    go_enter Tryz.func21, Tryz.ntmps21
    go_wp2_with (go_at_call 52; refine (compareInts_any _ _ _).mono ?_; (first | rw [HN.out] | rw [HM.out]); rintro e w' ⟨rfl, rfl⟩)
    go_ret
    exact ⟨by rw [HE.out] <;> rfl, hB0⟩
  · obtain rfl : n = m := by omega
    have HN := Lib.hid (cmpN_eq (n : Int))
    have HM := Lib.hid (cmpN_gt h3)
    have HE := Lib.hid h2
    clear h1 h2 ln lm h3
    go_enter Tryz.func21, Tryz.ntmps21
    go_wp2_with (go_at_call 52; refine (compareInts_any _ _ _).mono ?_; (first | rw [HN.out] | rw [HM.out]); rintro e w' ⟨rfl, rfl⟩)
    go_ret
    exact ⟨by rw [HE.out] <;> rfl, hB0⟩
  · obtain rfl : n = m := by omega
    subst h3
    have HN := Lib.hid (cmpN_eq (n : Int))
    have HM := Lib.hid (cmpN_eq s)
    have HE := Lib.hid h2
    clear h1 h2 ln lm
    go_enter Tryz.func21, Tryz.ntmps21
    go_wp2_with (first | (go_at_call 52; refine (compareInts_any _ _ _).mono ?_; (first | rw [HN.out] | rw [HM.out]); rintro e w' ⟨rfl, rfl⟩) | (go_at_call 53; refine (compareFunc_any _ (h.up hB0) (h'.up hB0)).mono ?_; rintro e w' ⟨rfl, hb1⟩))
    go_ret
    exact ⟨by rw [HE.out] <;> rfl, below_then hB0 hb1⟩
set_option maxRecDepth 4000 in
set_option maxHeartbeats 1000000 in
theorem specCompareWalks_is (w : World) {A B : Option Addr} {n c m d : Nat} (s : Int) {l : List St} (h : SRd w A n l) (s' : Int) {l' : List St} (h' : SRd w B m l') :
    Calls Tryz.prog 9 #[.agg #[.int .i64 s, .slice A n c], .agg #[.int .i64 s', .slice B m d]] w fun e w' => e = .returned (.int .i64 (cmpWk s l s' l')) ∧ Below w.heap.size w w' := by
  have hn := h.bd
  have hm := h'.bd
  have hc := cmpWk_cases s l s' l'
  have ln := h.ln
  have lm := h'.ln
  have hB0 : Below w.heap.size w ((w.alloc (.cells #[.int .i64 s, .slice A n c] 30)).alloc (.cells #[.int .i64 s', .slice B m d] 30)) := ((Below.refl _ _).alloc (Nat.le_refl _) _).alloc (by simp) _
  rcases hc with ⟨h1, h2⟩ | ⟨h1, h2⟩ | ⟨h1, h3, h2⟩ | ⟨h1, h3, h2⟩ | ⟨h1, h3, h2⟩
  · have h4 : (n : Int) < m := by omega
    have HE := Lib.hid h2
    clear h1 h2 ln lm
    go_enter Tryz.func9, Tryz.ntmps9
    go_wp2
    go_ret
    exact ⟨by rw [HE.out] <;> rfl, hB0⟩
  · have h4 : (m : Int) < n := by omega
    have HE := Lib.hid h2
    clear h1 h2 ln lm
    go_enter Tryz.func9, Tryz.ntmps9
    go_wp2
    go_ret
    exact ⟨by rw [HE.out] <;> rfl, hB0⟩
  · obtain rfl : n = m := by omega
    have HE := Lib.hid h2
    clear h1 h2 ln lm
    go_enter Tryz.func9, Tryz.ntmps9
    go_wp2
    go_ret
    exact ⟨by rw [HE.out] <;> rfl, hB0⟩
  · obtain rfl : n = m := by omega
    have HE := Lib.hid h2
    clear h1 h2 ln lm
    go_enter Tryz.func9, Tryz.ntmps9
    go_wp2
    go_ret
    exact ⟨by rw [HE.out] <;> rfl, hB0⟩
  · obtain rfl : n = m := by omega
    subst h3
    have HE := Lib.hid h2
    have HL1 := Lib.hid ln
    have HL2 := Lib.hid lm
    have kA : ((w.alloc (.cells #[.int .i64 s, .slice A n c] 30)).alloc (.cells #[.int .i64 s, .slice B n d] 30)).cell? ⟨w.heap.size, 1, none⟩ = some (.slice A n c) := by go_simp
    have kB : ((w.alloc (.cells #[.int .i64 s, .slice A n c] 30)).alloc (.cells #[.int .i64 s, .slice B n d] 30)).cell? ⟨w.heap.size + 1, 1, none⟩ = some (.slice B n d) := by go_simp
    clear h1 h2 ln lm
    go_enter Tryz.func9, Tryz.ntmps9
    go_wp2
    generalize ((w.alloc (.cells #[.int .i64 s, .slice A n c] 30)).alloc (.cells #[.int .i64 s, .slice B n d] 30)) = w0 at *
    go_loopw [5] (fun i wr => ∃ k : Nat, k ≤ n ∧ i = .int .i64 k ∧ cmpStL (l.drop k) (l'.drop k) = cmpStL l l' ∧ Below w0.heap.size w0 wr) (fun i _ => n - (intOf i).toNat)
    case atStart => exact ⟨0, Nat.zero_le _, rfl, rfl, Below.refl _ _⟩
    case round =>
      obtain ⟨k, hk, rfl, htk, hbel⟩ := hrel
      have HT := Lib.hid htk
      clear htk
      have hBr := below_then hB0 hbel
      have kAr := cell_keep hbel kA
      have kBr := cell_keep hbel kB
      by_cases hlt : k < n
      · obtain ⟨b, o, rfl, had, x, hx, c0, c1⟩ := step_at (h.up hBr).rd HL1.out hlt
        obtain ⟨b2, o2, rfl, had2, y, hy, d0, d1⟩ := step_at (h'.up hBr).rd HL2.out hlt
        have hD := cmpStL_drop hx hy
        rw [HT.out] at hD
        obtain ⟨z, hz⟩ : ∃ z, cmpSt x y = z := ⟨_, rfl⟩
        rw [hz] at hD
        have HD := Lib.hid hD
        have HZ := Lib.hid hz
        have hlt' : (k : Int) < n := by omega
        have hk0 : (0 : Int) ≤ (k : Int) := by omega
        clear hx hy hD hz HT
        obtain ⟨xe, xi⟩ := x
        obtain ⟨ye, yi⟩ := y
        dsimp only at c0 c1 d0 d1
        go_wp2_with fail
        go_region_held3 (fun w' => w'.cell? ⟨w.heap.size, 1, none⟩ = some (.slice (some ⟨b, o, none⟩) n c) ∧ w'.cell? ⟨w.heap.size + 1, 1, none⟩ = some (.slice (some ⟨b2, o2, none⟩) n d) ∧ w'.cell? ⟨b, o + k * 2, none⟩ = some (.int .i64 xe) ∧ w'.cell? ⟨b, o + k * 2 + 1, none⟩ = some (.bool xi) ∧ w'.cell? ⟨b2, o2 + k * 2, none⟩ = some (.int .i64 ye) ∧ w'.cell? ⟨b2, o2 + k * 2 + 1, none⟩ = some (.bool yi)) (first | exact ⟨kAr, kBr, c0, c1, d0, d1⟩ | exact ⟨cell_keep hb3 kAr, cell_keep hb3 kBr, cell_keep hb3 c0, cell_keep hb3 c1, cell_keep hb3 d0, cell_keep hb3 d1⟩) (first
          | (go_simp; go_at_call 42; refine (l5Step_any ⟨xe, xi⟩ ⟨ye, yi⟩ _).mono ?_; rw [HZ.out]; rintro r w3 ⟨rfl, hb3d⟩; have hb3 := below_then (Below.drew (Below.refl _ _)) hb3d))
        clear hb3d
        cases hq : (z != 0)
        · have hz0 : z = 0 := by simpa using hq
          have hE : cmpStL l l' = cmpStL (l.drop (k + 1)) (l'.drop (k + 1)) := by rw [HD.out, if_pos hz0]
          have HE2 := Lib.hid hE
          clear hE hz0
          go_wp2
          go_roundw
          case rel => exact ⟨k + 1, by omega, by go_num, HE2.out.symm, below_then hbel hb3⟩
          case measure => simp [intOf]; omega
        · have hz0 : ¬ z = 0 := by simpa using hq
          have hE : cmpStL l l' = z := by rw [HD.out, if_neg hz0]
          have HE2 := Lib.hid hE
          clear hE hz0
          go_wp2
          go_ret
          exact ⟨by rw [HE.out, HE2.out] <;> rfl, below_then hBr hb3⟩
      · obtain rfl : k = n := by omega
        have hE : cmpStL l l' = 0 := by rw [← HT.out, cmpStL_end (by have := HL1.out; omega) (by have := HL2.out; omega)]
        have HE2 := Lib.hid hE
        clear hE HT
        go_wp2
        go_ret
        exact ⟨by rw [HE.out, HE2.out] <;> rfl, hBr⟩
end Go.Proofs.YtomkgnamjfiocaaGreatDoor
