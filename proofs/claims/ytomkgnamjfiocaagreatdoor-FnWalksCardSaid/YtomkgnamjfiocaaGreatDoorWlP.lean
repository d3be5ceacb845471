/- Walks: the plain law, no program. A reversed walk goes back with the reversed word; simple paths are trails; walks are ordered; a walk's format is read back. -/
import Derived.Test.YtomkgnamjfiocaaGreatDoorRevW
import Derived.Test.YtomkgnamjfiocaaGreatDoorSimp
import Derived.Test.YtomkgnamjfiocaaGreatDoorTrail2
import Derived.Test.YtomkgnamjfiocaaGreatDoorBaseF
import Derived.Test.YtomkgnamjfiocaaGreatDoorCmpW
import Derived.Test.YtomkgnamjfiocaaGreatDoorPrsWk
import Derived.Test.YtomkgnamjfiocaaGreatDoorRev
namespace Go.Proofs.YtomkgnamjfiocaaGreatDoor
open Go.RowKit Go.ChangeShapes Go.WideShapes Go.ChangeAt Go.Deep
set_option linter.unusedVariables false
def okR (g : G) : Int → List St → Bool
  | _, [] => true
  | s, x :: l => (stFrom g x == s) && okR g (stTo g x) l
def endR (g : G) : Int → List St → Int
  | s, [] => s
  | _, x :: l => endR g (stTo g x) l
theorem okUp_okR (g : G) : ∀ (l : List St) (s : Int), okUp g s l l.length = okR g s l
  | [], s => rfl
  | x :: l, s => by
    have ih := okUp_okR g l (stTo g x)
    unfold okR
    rw [← ih]
    unfold okUp
    rw [List.length_cons, List.range_succ_eq_map, List.all_cons, List.all_map]
    rfl
theorem last_endR (g : G) : ∀ (l : List St) (s : Int), (s :: l.map (stTo g))[l.length]? = some (endR g s l)
  | [], s => rfl
  | x :: l, s => by
    have ih := last_endR g l (stTo g x)
    rw [List.length_cons, List.getElem?_cons_succ, List.map_cons, ih]
    rfl
theorem endZ_endR {g : G} {s : Int} {l : List St} (h : walkOk g s l = true) : endZ g s l = endR g s l := by
  have h1 := endZ_at h
  rw [nodesZ_yes h, nodesUp_last (Nat.le_refl _), last_endR] at h1
  exact (Option.some.inj h1).symm
theorem okR_snoc (g : G) (x : St) : ∀ (l : List St) (s : Int), okR g s (l ++ [x]) = (okR g s l && (stFrom g x == endR g s l))
  | [], s => by simp [okR, endR]
  | y :: l, s => by
    rw [List.cons_append, okR, okR_snoc g x l, okR, endR, Bool.and_assoc]
theorem endR_snoc (g : G) (x : St) : ∀ (l : List St) (s : Int), endR g s (l ++ [x]) = stTo g x
  | [], s => rfl
  | y :: l, s => by
    rw [List.cons_append, endR, endR_snoc g x l]
theorem invS_two (x : St) : invS (invS x) = x := by simp [invS]
theorem from_inv (g : G) (x : St) : stFrom g (invS x) = stTo g x := rfl
theorem to_inv (g : G) (x : St) : stTo g (invS x) = stFrom g x := by
  show stFrom g (invS (invS x)) = _
  rw [invS_two]
theorem revSt_cons (x : St) (l : List St) : revSt (x :: l) = revSt l ++ [invS x] := by simp [revSt]
theorem revSt_two (l : List St) : revSt (revSt l) = l := by
  unfold revSt
  rw [← List.map_reverse, List.map_map, List.reverse_reverse]
  have : (invS ∘ invS) = id := by
    funext x
    exact invS_two x
  rw [this, List.map_id]
theorem rev_okR (g : G) : ∀ (l : List St) (s : Int), okR g s l = true → okR g (endR g s l) (revSt l) = true ∧ endR g (endR g s l) (revSt l) = s
  | [], s, _ => ⟨rfl, rfl⟩
  | x :: l, s, h => by
    rw [okR, Bool.and_eq_true, beq_iff_eq] at h
    obtain ⟨i1, i2⟩ := rev_okR g l (stTo g x) h.2
    rw [revSt_cons, endR, okR_snoc, endR_snoc, i1, i2, from_inv, to_inv]
    exact ⟨by simp, h.1⟩
theorem stFrom_in {g : G} {x : St} (h : (stE g x).2 = true) : 0 ≤ stFrom g x ∧ stFrom g x ≤ (g.vs.length : Int) - 1 := by
  unfold stFrom
  rw [h, if_pos rfl]
  unfold stE at h ⊢
  cases hv : validG g
  · simp [hv] at h
  · simp only [hv, if_true] at h ⊢
    cases he : g.es[ixN g.es x.ed]? with
    | none => simp [he] at h
    | some e =>
      have := okE_bd (valid_edge hv he)
      simp only
      split <;> omega
theorem endR_in (g : G) : ∀ (l : List St) (s : Int), 0 ≤ s → s ≤ (g.vs.length : Int) - 1 → okR g s l = true → 0 ≤ endR g s l ∧ endR g s l ≤ (g.vs.length : Int) - 1
  | [], s, h0, h1, _ => ⟨h0, h1⟩
  | x :: l, s, h0, h1, h => by
    rw [okR, Bool.and_eq_true, beq_iff_eq] at h
    have hx := (stTo_nonneg h.1 h0).1
    have hE : (stE g (invS x)).2 = true := hx
    have := stFrom_in hE
    rw [from_inv] at this
    exact endR_in g l (stTo g x) this.1 this.2 h.2
theorem walk_parts {g : G} {s : Int} {l : List St} : walkOk g s l = true ↔ validG g = true ∧ (0 ≤ s ∧ s ≤ (g.vs.length : Int) - 1) ∧ l.length ≤ 60 ∧ okR g s l = true := by
  unfold walkOk
  rw [okUp_okR]
  simp only [Bool.and_eq_true, decide_eq_true_eq, inB_true]
  constructor
  · rintro ⟨⟨⟨a, b⟩, c⟩, d⟩
    exact ⟨a, b, c, d⟩
  · rintro ⟨a, b, c, d⟩
    exact ⟨⟨⟨a, b⟩, c⟩, d⟩
theorem rev_walk {g : G} {s : Int} {l : List St} (h : walkOk g s l = true) : walkOk g (endZ g s l) (revSt l) = true ∧ endZ g (endZ g s l) (revSt l) = s := by
  obtain ⟨h1, h2, h3, h4⟩ := walk_parts.1 h
  obtain ⟨r1, r2⟩ := rev_okR g l s h4
  have he := endZ_endR h
  have hb := endR_in g l s h2.1 h2.2 h4
  have hw : walkOk g (endZ g s l) (revSt l) = true := by
    rw [he]
    exact walk_parts.2 ⟨h1, hb, by rw [revSt_len]; exact h3, r1⟩
  refine ⟨hw, ?_⟩
  rw [endZ_endR hw, he, r2]
theorem invL_dbl {x : Int} (h0 : 0 ≤ x) (h2 : x ≤ 2) : invL (2 * x) = 2 * x + 1 ∧ invL (2 * x + 1) = 2 * x := by
  have : x = 0 ∨ x = 1 ∨ x = 2 := by omega
  rcases this with rfl | rfl | rfl <;> decide
theorem let_inv (g : G) (x : St) : stLet g (invS x) = invL (stLet g x) := by
  have hE : stE g (invS x) = stE g x := rfl
  unfold stLet
  rw [hE]
  cases h : (stE g x).2 with
  | false =>
    rw [if_neg (by simp), if_neg (by simp)]
    decide
  | true =>
    rw [if_pos rfl, if_pos rfl]
    have hl := stE_lb h
    obtain ⟨a, b⟩ := invL_dbl hl.1 hl.2
    have hi : (invS x).inv = !x.inv := rfl
    rw [hi]
    cases x.inv
    · simpa using a.symm
    · simpa using b.symm
theorem rev_word {g : G} {s : Int} {l : List St} (h : walkOk g s l = true) : wordZ g (endZ g s l) (revSt l) = revW (wordZ g s l) := by
  rw [wordZ_yes h, wordZ_yes (rev_walk h).1]
  unfold revSt revW
  rw [List.map_map, ← List.map_reverse, List.map_map]
  refine List.map_congr_left fun x _ => ?_
  exact let_inv g x
theorem simple_trail {g : G} {s : Int} {l : List St} (h : simpleZ g s l = true) : trailZ g s l = true := by
  unfold simpleZ at h
  rw [Bool.and_eq_true, decide_eq_true_eq] at h
  obtain ⟨hw, hn⟩ := h
  unfold trailZ
  rw [hw, Bool.and_true]
  have hN : nodesZ g s l = s :: l.map (stTo g) := by
    rw [nodesZ_yes hw]
    unfold nodesUp
    rw [List.take_length]
  rw [hN] at hn
  have hu : okUp g s l l.length = true := by
    unfold walkOk at hw
    exact (Bool.and_eq_true_iff.1 hw).2
  have hfr : ∀ (j : Nat) (x : St), l[j]? = some x → (s :: l.map (stTo g))[j]? = some (stFrom g x) := by
    intro j x hx
    have hj := (List.getElem?_eq_some_iff.1 hx).1
    obtain ⟨b, hb⟩ : ∃ b, (s :: l.map (stTo g))[j]? = some b := ⟨_, List.getElem?_eq_getElem (by simp; omega)⟩
    have hall := List.all_eq_true.1 hu j (List.mem_range.2 hj)
    simp only [hx, hb] at hall
    rw [hb]
    have : stFrom g x = b := by simpa using hall
    rw [this]
  have hto : ∀ (j : Nat) (x : St), l[j]? = some x → (s :: l.map (stTo g))[j + 1]? = some (stTo g x) := by
    intro j x hx
    rw [List.getElem?_cons_succ, List.getElem?_map, hx]
    rfl
  unfold apartUp
  rw [List.all_eq_true]
  intro j hj
  have hj := List.mem_range.1 hj
  cases hx : l[j]? with
  | none => rfl
  | some x =>
    simp only [Bool.not_eq_true', hasEd]
    rw [List.any_eq_false]
    intro y hy he
    have he : y.ed = x.ed := by simpa using he
    obtain ⟨i, hi, hiy⟩ := List.mem_take_iff_getElem.1 hy
    have hil : i < l.length := by omega
    have hyi : l[i]? = some y := by rw [List.getElem?_eq_getElem hil, hiy]
    have hlen : (s :: l.map (stTo g)).length = l.length + 1 := by simp
    by_cases hinv : y.inv = x.inv
    · have hxy : y = x := by
        obtain ⟨a, b⟩ := x
        obtain ⟨a', b'⟩ := y
        simp only at he hinv
        rw [he, hinv]
      have e1 := hfr i y hyi
      have e2 := hfr j x hx
      rw [hxy, ← e2] at e1
      have := (List.getElem?_inj (i := i) (j := j) (by omega) hn).1 e1
      omega
    · have hxy : x = invS y := by
        obtain ⟨a, b⟩ := x
        obtain ⟨a', b'⟩ := y
        simp only at he hinv
        unfold invS
        simp only [he]
        cases b <;> cases b' <;> simp_all
      have e1 := hfr i y hyi
      have e2 := hto j x hx
      rw [hxy, to_inv, ← e1] at e2
      have := (List.getElem?_inj (i := j + 1) (j := i) (by omega) hn).1 e2
      omega
theorem cmpSt_neg (x y : St) : cmpSt y x = -cmpSt x y := by
  unfold cmpSt
  by_cases h1 : x.ed < y.ed
  · have h2 : ¬ y.ed < x.ed := by omega
    simp [h1, h2]
  · by_cases h2 : y.ed < x.ed
    · simp [h1, h2]
    · rw [if_neg h1, if_neg h2, if_neg h2, if_neg h1]
      cases x.inv <;> cases y.inv <;> decide
theorem cmpSt_zero {x y : St} : cmpSt x y = 0 ↔ x = y := by
  obtain ⟨a, b⟩ := x
  obtain ⟨a', b'⟩ := y
  unfold cmpSt
  simp only
  by_cases h1 : a < a'
  · rw [if_pos h1]
    simp
    omega
  · by_cases h2 : a' < a
    · rw [if_neg h1, if_pos h2]
      simp
      omega
    · obtain rfl : a = a' := by omega
      rw [if_neg h1, if_neg h2]
      cases b <;> cases b' <;> simp
theorem cmpStL_neg : ∀ (xs ys : List St), xs.length = ys.length → cmpStL ys xs = -cmpStL xs ys
  | [], [], _ => by simp [cmpStL]
  | x :: xs, y :: ys, h => by
    have ih := cmpStL_neg xs ys (by simpa using h)
    have hs := cmpSt_neg x y
    unfold cmpStL
    by_cases h0 : cmpSt x y = 0
    · rw [if_pos (by omega), if_pos h0, ih]
    · rw [if_neg (by omega), if_neg h0, hs]
theorem cmpStL_zero : ∀ (xs : List St), cmpStL xs xs = 0
  | [] => by simp [cmpStL]
  | x :: xs => by
    have ih := cmpStL_zero xs
    have hs := cmpSt_zero.2 (rfl : x = x)
    unfold cmpStL
    rw [if_pos hs, ih]
theorem cmpWk_neg (s : Int) (l : List St) (t : Int) (m : List St) : cmpWk t m s l = -cmpWk s l t m := by
  unfold cmpWk
  by_cases h1 : l.length < m.length
  · have h2 : ¬ m.length < l.length := by omega
    simp [h1, h2]
  · by_cases h2 : m.length < l.length
    · simp [h1, h2]
    · rw [if_neg h1, if_neg h2, if_neg h2, if_neg h1]
      by_cases h3 : s < t
      · have h4 : ¬ t < s := by omega
        simp [h3, h4]
      · by_cases h4 : t < s
        · simp [h3, h4]
        · rw [if_neg h3, if_neg h4, if_neg h4, if_neg h3]
          exact cmpStL_neg l m (by omega)
theorem cmpWk_same (s : Int) (l : List St) : cmpWk s l s l = 0 := by
  unfold cmpWk
  rw [if_neg (by omega), if_neg (by omega), if_neg (by omega), if_neg (by omega)]
  exact cmpStL_zero l
theorem cmpStL_bd : ∀ (xs ys : List St), -1 ≤ cmpStL xs ys ∧ cmpStL xs ys ≤ 1
  | [], [] => by simp [cmpStL]
  | [], _ :: _ => by simp [cmpStL]
  | _ :: _, [] => by simp [cmpStL]
  | x :: xs, y :: ys => by
    have ih := cmpStL_bd xs ys
    have : -1 ≤ cmpSt x y ∧ cmpSt x y ≤ 1 := by
      unfold cmpSt
      repeat' split
      all_goals omega
    unfold cmpStL
    split <;> assumption
theorem cmpWk_bd (s : Int) (l : List St) (t : Int) (m : List St) : -1 ≤ cmpWk s l t m ∧ cmpWk s l t m ≤ 1 := by
  have := cmpStL_bd l m
  unfold cmpWk
  repeat' split
  all_goals omega
/-- A step's text without the space before it. -/
def stT (x : St) : List UInt8 := Lib.itoa x.ed ++ if x.inv then [45] else []
theorem itoa_nil (x : Int) : Lib.itoa x ≠ [] := by
  intro h
  rcases itoa_cases x with ⟨u, rfl, h1⟩ | ⟨u, hu, rfl, h1⟩
  · rw [h1] at h
    exact dec_ne u h
  · rw [h1] at h
    cases h
theorem stP_back {x : St} (h : stOk x = true) : stP (stT x) = x := by
  have hb := inB_true.1 h
  have hp := prsI_itoa (n := x.ed) (by omega) (by omega)
  obtain ⟨i, v⟩ := x
  simp only at hp hb
  unfold stP stT
  cases v
  · simp only [Bool.false_eq_true, if_false, List.append_nil]
    have hd : dashB (Lib.itoa i) = false := by
      unfold dashB
      cases hg : (Lib.itoa i).getLast? with
      | none => rfl
      | some b =>
        have hm := List.mem_of_getLast? hg
        obtain ⟨u, rfl⟩ : ∃ u : Nat, i = u := ⟨i.toNat, by omega⟩
        rw [Lib.itoa_nonneg] at hm
        have := dec_digit hm
        rw [beq_eq_false_iff_ne]
        intro e
        have e := Option.some.inj e
        subst e
        simp at this
    rw [hd, hp]
    rfl
  · have hd : dashB (Lib.itoa i ++ if true = true then [45] else []) = true := by
      unfold dashB
      simp
    rw [hd]
    simp [hp]
theorem walk_back (s : Int) (l : List St) : prsWkB (fmtWk s l) = decide (fmtWk s l ≠ []) ∧ (fmtWk s l ≠ [] → prsWk (fmtWk s l) = ⟨s, l⟩) := by
  by_cases hk : (inB s 0 4 && decide (l.length ≤ 60) && l.all stOk) = true
  · have hf : fmtWk s l = Lib.itoa s ++ l.flatMap fmtS := by unfold fmtWk; rw [if_pos hk]
    have hne : fmtWk s l ≠ [] := by
      rw [hf]
      intro e
      exact itoa_nil s (List.append_eq_nil_iff.1 e).1
    have hfg : fmtWk s l = glue 32 (Lib.itoa s :: l.map stT) := by
      rw [hf]
      unfold glue
      congr 1
      rw [List.flatMap_map]
      rfl
    simp only [Bool.and_eq_true, decide_eq_true_eq] at hk
    obtain ⟨⟨hs, hl⟩, ha⟩ := hk
    have hs := inB_true.1 hs
    have ha := List.all_eq_true.1 ha
    have hcut : cutL 32 (fmtWk s l) = Lib.itoa s :: l.map stT := by
      rw [hfg]
      refine cutL_of_glue 32 _ _ (itoa_no (Or.inl (by decide))) ?_
      intro y hy
      obtain ⟨x, hx, rfl⟩ := List.mem_map.1 hy
      unfold stT
      intro hm
      rcases List.mem_append.1 hm with hm | hm
      · exact itoa_no (Or.inl (by decide)) hm
      · split at hm <;> simp at hm
    have hp : prsW (fmtWk s l) = some (s, l) := by
      unfold prsW
      rw [hcut]
      have h1 : (prsI (Lib.itoa s)).getD 0 = s := by rw [prsI_itoa (by omega) (by omega)]; rfl
      have h2 : (l.map stT).map stP = l := by
        rw [List.map_map]
        conv => rhs; rw [← List.map_id l]
        exact List.map_congr_left fun x hx => stP_back (ha x hx)
      simp only
      rw [h1, h2, if_pos rfl]
    unfold prsWkB prsWk
    rw [hp]
    exact ⟨by simp [hne], fun _ => rfl⟩
  · have hf : fmtWk s l = [] := by unfold fmtWk; rw [if_neg hk]
    rw [hf]
    refine ⟨?_, fun h => absurd rfl h⟩
    have hp : prsW [] = none := by
      rw [← prsWS_eq]
      unfold prsWS
      simp [cutL]
    unfold prsWkB
    rw [hp]
    simp
theorem walk_len (s : Int) (l : List St) : (fmtWk s l).length ≤ 1048576 := by
  by_cases hk : (inB s 0 4 && decide (l.length ≤ 60) && l.all stOk) = true
  · have hf : fmtWk s l = Lib.itoa s ++ l.flatMap fmtS := by unfold fmtWk; rw [if_pos hk]
    simp only [Bool.and_eq_true, decide_eq_true_eq] at hk
    obtain ⟨⟨hs, hl⟩, ha⟩ := hk
    have hs := inB_true.1 hs
    have := fmtSs_len l (List.all_eq_true.1 ha)
    have := itoa_len9 (n := s) (by omega) (by omega)
    rw [hf, List.length_append]
    omega
  · have hf : fmtWk s l = [] := by unfold fmtWk; rw [if_neg hk]
    rw [hf]
    simp
end Go.Proofs.YtomkgnamjfiocaaGreatDoor
