/- The texts of edges, words, graphs, walks and batches: plain facts, no program: what the formats write and what the parsers read, and that the reference's way of reading gives the same. -/
import Derived.Test.YtljggmgijadjaaaGreatDoorDec
import Derived.Test.YtljggmgijadjaaaGreatDoorCutL
import Derived.Test.YtljggmgijadjaaaGreatDoorBaseA
import Derived.Lib.Join
namespace Go.Proofs.YtljggmgijadjaaaGreatDoor
open Go.RowKit Go.ChangeShapes Go.WideShapes Go.ChangeAt Go.Deep
set_option linter.unusedVariables false
def fmtE (e : E) : List UInt8 := if okE 5 e then Lib.itoa e.id ++ [58] ++ Lib.itoa e.fr ++ fmtL (2 * e.lb) ++ Lib.itoa e.to else []
theorem okE_iff {n : Int} {e : E} : okE n e = true ↔ (1 ≤ e.id ∧ e.id ≤ 99) ∧ (0 ≤ e.fr ∧ e.fr ≤ n - 1) ∧ (0 ≤ e.to ∧ e.to ≤ n - 1) ∧ (0 ≤ e.lb ∧ e.lb ≤ 2) := by
  unfold okE
  simp only [Bool.and_eq_true, inB_true]
  constructor
  · rintro ⟨⟨⟨a, b⟩, c⟩, d⟩; exact ⟨a, b, c, d⟩
  · rintro ⟨a, b, c, d⟩; exact ⟨⟨⟨a, b⟩, c⟩, d⟩
theorem itoa_dig {x : Int} (h0 : 0 ≤ x) (h1 : x ≤ 9) : ∃ b : UInt8, Lib.itoa x = [b] ∧ (b.toNat : Int) = 48 + x := by
  obtain ⟨u, rfl⟩ : ∃ u : Nat, x = u := ⟨x.toNat, by omega⟩
  refine ⟨UInt8.ofNat (48 + u), by rw [Lib.itoa_nonneg, dec_small (by omega)], ?_⟩
  rw [UInt8.toNat_ofNat']
  omega
theorem dig_itoa {b : UInt8} (h0 : 48 ≤ b.toNat) (h1 : b.toNat ≤ 57) : Lib.itoa ((b.toNat : Int) - 48) = [b] := by
  obtain ⟨c, hc, he⟩ := itoa_dig (x := (b.toNat : Int) - 48) (by omega) (by omega)
  rw [hc]
  have : c = b := UInt8.toNat_inj.1 (by omega)
  rw [this]
theorem fmtL_dbl {x : Int} (h0 : 0 ≤ x) (h1 : x ≤ 2) : ∃ b : UInt8, fmtL (2 * x) = [b] ∧ (b.toNat : Int) = 97 + x ∧ parseLN [b] = 2 * x := by
  have : x = 0 ∨ x = 1 ∨ x = 2 := by omega
  rcases this with rfl | rfl | rfl
  · exact ⟨97, rfl, rfl, rfl⟩
  · exact ⟨98, rfl, rfl, rfl⟩
  · exact ⟨99, rfl, rfl, rfl⟩
theorem itoa_no {x : Int} {c : UInt8} (hc : c.toNat < 45 ∨ 57 < c.toNat) : c ∉ Lib.itoa x := by
  intro hm
  rcases itoa_cases x with ⟨u, rfl, h⟩ | ⟨u, hu, rfl, h⟩
  · rw [h] at hm
    have := dec_digit hm
    omega
  · rw [h] at hm
    rcases List.mem_cons.1 hm with rfl | hm
    · simp at hc
    · have := dec_digit hm
      omega
/-- An edge's text, its signs named. -/
theorem fmtE_ok {e : E} (h : okE 5 e = true) : ∃ x y z : UInt8, fmtE e = Lib.itoa e.id ++ 58 :: [x, y, z] ∧ (x.toNat : Int) = 48 + e.fr ∧ (y.toNat : Int) = 97 + e.lb ∧ (z.toNat : Int) = 48 + e.to ∧ parseLN [y] = 2 * e.lb := by
  obtain ⟨⟨i0, i1⟩, ⟨f0, f1⟩, ⟨t0, t1⟩, l0, l1⟩ := okE_iff.1 h
  obtain ⟨x, hx, hx'⟩ := itoa_dig f0 (by omega)
  obtain ⟨z, hz, hz'⟩ := itoa_dig t0 (by omega)
  obtain ⟨y, hy, hy', hy''⟩ := fmtL_dbl l0 l1
  refine ⟨x, y, z, ?_, hx', hy', hz', hy''⟩
  unfold fmtE
  rw [if_pos h, hx, hz, hy]
  simp
theorem fmtE_bad {e : E} (h : ¬ okE 5 e = true) : fmtE e = [] := by unfold fmtE; rw [if_neg h]
theorem fmtE_cut {e : E} (h : okE 5 e = true) : ∃ x y z : UInt8, fmtE e = Lib.itoa e.id ++ 58 :: [x, y, z] ∧ cutL 58 (fmtE e) = [Lib.itoa e.id, [x, y, z]] ∧ (x.toNat : Int) = 48 + e.fr ∧ (y.toNat : Int) = 97 + e.lb ∧ (z.toNat : Int) = 48 + e.to ∧ parseLN [y] = 2 * e.lb ∧ prsI (Lib.itoa e.id) = some e.id := by
  obtain ⟨x, y, z, h1, hx, hy, hz, hp⟩ := fmtE_ok h
  obtain ⟨⟨i0, i1⟩, ⟨f0, f1⟩, ⟨t0, t1⟩, l0, l1⟩ := okE_iff.1 h
  refine ⟨x, y, z, h1, ?_, hx, hy, hz, hp, prsI_itoa (by omega) (by omega)⟩
  rw [h1, cutL_hit 58 _ _ (itoa_no (Or.inr (by decide))), cutL_miss]
  intro hm
  simp only [List.mem_cons, List.not_mem_nil, or_false] at hm
  rcases hm with rfl | rfl | rfl <;> simp at hx hy hz <;> omega
/-- What the program makes of the two parts of an edge's text. -/
def edI (a : List UInt8) (x y z : UInt8) : E := ⟨(prsI a).getD 0, (x.toNat : Int) - 48, (z.toNat : Int) - 48, (y.toNat : Int) - 97⟩
/-- What the reference makes of them. -/
def edS (a : List UInt8) (x y z : UInt8) : E := ⟨(prsI a).getD 0, (x.toNat : Int) - 48, (z.toNat : Int) - 48, (parseLN [y]).tdiv 2⟩
def prsE (l : List UInt8) : Option E := match (Lib.cut l [58]).2.1 with
  | [x, y, z] => if fmtE (edI (Lib.cut l [58]).1 x y z) = l then some (edI (Lib.cut l [58]).1 x y z) else none
  | _ => none
def prsES (l : List UInt8) : Option E := match cutL 58 l with
  | [a, [x, y, z]] => if fmtE (edS a x y z) = l then some (edS a x y z) else none
  | _ => none
theorem prsE_iff (l : List UInt8) (e : E) : prsE l = some e ↔ okE 5 e = true ∧ fmtE e = l := by
  constructor
  · intro h
    unfold prsE at h
    split at h
    · rename_i x y z hb
      split at h
      · rename_i hf
        injection h with h
        rw [h] at hf
        refine ⟨?_, hf⟩
        by_cases ho : okE 5 e = true
        · exact ho
        · exfalso
          rw [fmtE_bad ho] at hf
          subst hf
          rw [cut_one] at hb
          simp [cutL] at hb
      · cases h
    · cases h
  · rintro ⟨ho, rfl⟩
    obtain ⟨x, y, z, h1, hc, hx, hy, hz, hp, hi⟩ := fmtE_cut ho
    have hcut : Lib.cut (fmtE e) [58] = (Lib.itoa e.id, [x, y, z], true) := by rw [cut_one, hc]; simp [glue]
    have he : edI (Lib.itoa e.id) x y z = e := by
      unfold edI
      rw [hi]
      obtain ⟨a, b, c, d⟩ := e
      simp at hx hy hz ⊢
      omega
    unfold prsE
    rw [hcut]
    simp only [he, if_true]
theorem prsES_iff (l : List UInt8) (e : E) : prsES l = some e ↔ okE 5 e = true ∧ fmtE e = l := by
  constructor
  · intro h
    unfold prsES at h
    split at h
    · rename_i a x y z hb
      split at h
      · rename_i hf
        injection h with h
        rw [h] at hf
        refine ⟨?_, hf⟩
        by_cases ho : okE 5 e = true
        · exact ho
        · exfalso
          rw [fmtE_bad ho] at hf
          subst hf
          simp [cutL] at hb
      · cases h
    · cases h
  · rintro ⟨ho, rfl⟩
    obtain ⟨x, y, z, h1, hc, hx, hy, hz, hp, hi⟩ := fmtE_cut ho
    obtain ⟨⟨i0, i1⟩, ⟨f0, f1⟩, ⟨t0, t1⟩, l0, l1⟩ := okE_iff.1 ho
    have he : edS (Lib.itoa e.id) x y z = e := by
      unfold edS
      rw [hi, hp, Int.tdiv_eq_ediv_of_nonneg (by omega)]
      obtain ⟨a, b, c, d⟩ := e
      simp at hx hy hz ⊢
      omega
    unfold prsES
    rw [hc]
    simp only [he, if_true]
theorem prsES_eq (l : List UInt8) : prsES l = prsE l := by
  cases h : prsE l with
  | some e => exact (prsES_iff l e).2 ((prsE_iff l e).1 h)
  | none =>
    cases h2 : prsES l with
    | none => rfl
    | some e => rw [(prsE_iff l e).2 ((prsES_iff l e).1 h2)] at h; cases h
theorem prsE_nil : prsE [] = none := by unfold prsE; rw [cut_one]; simp [cutL]
theorem fmtE_len (e : E) : (fmtE e).length ≤ 16 := by
  by_cases h : okE 5 e = true
  · obtain ⟨x, y, z, h1, _⟩ := fmtE_ok h
    have := okE_iff.1 h
    have := itoa_len9 (n := e.id) (by omega) (by omega)
    rw [h1]
    simp
    omega
  · rw [fmtE_bad h]; simp
theorem fmtE_no {e : E} : (32 : UInt8) ∉ fmtE e := by
  by_cases h : okE 5 e = true
  · obtain ⟨x, y, z, h1, hx, hy, hz, _⟩ := fmtE_ok h
    have := okE_iff.1 h
    rw [h1]
    intro hm
    rcases List.mem_append.1 hm with hm | hm
    · exact itoa_no (Or.inl (by decide)) hm
    · simp only [List.mem_cons, List.not_mem_nil, or_false] at hm
      rcases hm with hm | rfl | rfl | rfl
      · exact absurd hm (by decide)
      · simp at hx; omega
      · simp at hy; omega
      · simp at hz; omega
  · rw [fmtE_bad h]; simp
theorem fmtE_ne {e : E} (h : okE 5 e = true) : fmtE e ≠ [] := by
  obtain ⟨x, y, z, h1, _⟩ := fmtE_ok h
  rw [h1]; simp

/-- Words. -/
def prsWd (l : List UInt8) : Option (List Int) := if l = [40, 41] then some [] else if (cutL 32 l).all parseLB && wordB ((cutL 32 l).map parseLN) then some ((cutL 32 l).map parseLN) else none
def prsWdS (l : List UInt8) : Option (List Int) := if l = [40, 41] then some [] else if ((cutL 32 l).take 9).all parseLB && wordB (((cutL 32 l).take 9).map parseLN) then some (((cutL 32 l).take 9).map parseLN) else none
theorem prsWdS_eq (l : List UInt8) : prsWdS l = prsWd l := by
  unfold prsWdS prsWd
  split
  · rfl
  · by_cases h : (cutL 32 l).length ≤ 9
    · rw [List.take_of_length_le h]
    · rw [if_neg, if_neg]
      · simp only [wordB, Bool.and_eq_true, decide_eq_true_eq, List.length_map]
        omega
      · simp only [wordB, Bool.and_eq_true, decide_eq_true_eq, List.length_map, List.length_take]
        omega

/-- Graphs. -/
def fmtG (g : G) : List UInt8 := if validG g then g.vs.flatMap Lib.itoa ++ g.es.flatMap (fun e => 32 :: fmtE e) else []
def dv (b : UInt8) : Int := (b.toNat : Int) - 48
def prsEs : List (List UInt8) → Option (List E)
  | [] => some []
  | p :: r => match prsE p with
    | some e => (prsEs r).map (e :: ·)
    | none => none
def prsG (l : List UInt8) : Option G := match cutL 32 l with
  | [] => none
  | p :: r => match prsEs r with
    | some es => if fmtG ⟨p.map dv, es⟩ = l ∧ l ≠ [] then some ⟨p.map dv, es⟩ else none
    | none => none
def prsGS (l : List UInt8) : Option G := match cutL 32 l with
  | [] => none
  | p :: r => match prsEs (r.take 13) with
    | some es => if validG ⟨(p.take 6).map dv, es⟩ then some ⟨(p.take 6).map dv, es⟩ else none
    | none => none
theorem prsEs_len : ∀ {r : List (List UInt8)} {es : List E}, prsEs r = some es → es.length = r.length ∧ es.map fmtE = r
  | [], es, h => by simp [prsEs] at h; subst h; simp
  | p :: r, es, h => by
    unfold prsEs at h
    cases hp : prsE p with
    | none => rw [hp] at h; cases h
    | some e =>
      rw [hp] at h
      simp only [Option.map_eq_some_iff] at h
      obtain ⟨t, ht, rfl⟩ := h
      obtain ⟨h1, h2⟩ := prsEs_len ht
      exact ⟨by simp [h1], by simp [h2, ((prsE_iff p e).1 hp).2]⟩
theorem prsEs_take : ∀ (r : List (List UInt8)) (es : List E) (k : Nat), prsEs r = some es → prsEs (r.take k) = some (es.take k)
  | [], es, k, h => by simp [prsEs] at h; subst h; simp [prsEs]
  | p :: r, es, 0, h => by simp [prsEs]
  | p :: r, es, k + 1, h => by
    unfold prsEs at h
    cases hp : prsE p with
    | none => rw [hp] at h; cases h
    | some e =>
      rw [hp] at h
      simp only [Option.map_eq_some_iff] at h
      obtain ⟨t, ht, rfl⟩ := h
      simp [prsEs, hp, prsEs_take r t k ht]
theorem prsEs_snoc : ∀ (r : List (List UInt8)) (es : List E) (p : List UInt8), prsEs r = some es → prsEs (r ++ [p]) = (prsE p).map (fun e => es ++ [e])
  | [], es, p, h => by
    simp [prsEs] at h; subst h
    simp only [List.nil_append, prsEs]
    cases prsE p <;> rfl
  | q :: r, es, p, h => by
    unfold prsEs at h
    cases hp : prsE q with
    | none => rw [hp] at h; cases h
    | some e =>
      rw [hp] at h
      simp only [Option.map_eq_some_iff] at h
      obtain ⟨t, ht, rfl⟩ := h
      simp only [List.cons_append, prsEs, hp, prsEs_snoc r t p ht]
      cases prsE p <;> rfl
theorem prsEs_bad : ∀ (r : List (List UInt8)) (p : List UInt8) (s : List (List UInt8)), prsE p = none → prsEs (r ++ p :: s) = none
  | [], p, s, h => by simp [prsEs, h]
  | q :: r, p, s, h => by
    simp only [List.cons_append, prsEs]
    cases prsE q with
    | none => rfl
    | some e => simp [prsEs_bad r p s h]
theorem validG_iff {g : G} (h : validG g = true) : (∀ v ∈ g.vs, 0 ≤ v ∧ v ≤ 2) ∧ (1 ≤ g.vs.length ∧ g.vs.length ≤ 5) ∧ g.es.length ≤ 12 := by
  unfold validG at h
  simp only [Bool.and_eq_true, List.all_eq_true, decide_eq_true_eq] at h
  obtain ⟨⟨⟨a, b⟩, c⟩, d⟩ := h
  have := inB_true.1 c
  exact ⟨fun v hv => inB_true.1 (a v hv), by omega, d⟩
theorem vals_back : ∀ (p : List UInt8), (∀ v ∈ p.map dv, 0 ≤ v ∧ v ≤ 2) → (p.map dv).flatMap Lib.itoa = p
  | [], _ => rfl
  | b :: p, h => by
    have hb := h (dv b) (by simp)
    unfold dv at hb
    rw [List.map_cons, List.flatMap_cons, vals_back p (fun v hv => h v (by simp at hv ⊢; exact Or.inr hv))]
    unfold dv
    rw [dig_itoa (by omega) (by omega)]
    rfl
theorem edges_back (es : List E) : es.flatMap (fun e => 32 :: fmtE e) = (es.map fmtE).flatMap (fun y => 32 :: y) := by
  rw [List.flatMap_map]
theorem prsGS_eq (l : List UInt8) : prsGS l = prsG l := by
  have hg := cutL_glue 32 l
  unfold prsGS prsG
  cases hc : cutL 32 l with
  | nil => rfl
  | cons p r =>
    rw [hc] at hg
    simp only
    cases hr : prsEs r with
    | none =>
      simp only
      cases ht : prsEs (r.take 13) with
      | none => rfl
      | some es =>
        simp only
        have hl := (prsEs_len ht).1
        rw [if_neg]
        intro hv
        have := (validG_iff hv).2.2
        simp only at this
        by_cases h13 : r.length ≤ 13
        · rw [List.take_of_length_le h13] at ht
          rw [ht] at hr
          cases hr
        · rw [List.length_take] at hl
          omega
    | some es =>
      obtain ⟨hl, hm⟩ := prsEs_len hr
      rw [prsEs_take r es 13 hr]
      simp only
      by_cases hv : validG ⟨p.map dv, es⟩ = true
      · obtain ⟨h1, h2, h3⟩ := validG_iff hv
        simp only [List.length_map] at h1 h2 h3
        rw [List.take_of_length_le (by omega), List.take_of_length_le (by omega), if_pos hv, if_pos]
        refine ⟨?_, ?_⟩
        · unfold fmtG
          rw [if_pos hv]
          simp only
          rw [vals_back p h1, edges_back, hm, ← hg]
          rfl
        · rintro rfl
          simp [cutL] at hc
          rw [hc.1] at h2
          simp at h2
      · rw [if_neg, if_neg]
        · rintro ⟨h1, h2⟩
          unfold fmtG at h1
          rw [if_neg hv] at h1
          exact h2 h1.symm
        · intro hv2
          obtain ⟨h1, h2, h3⟩ := validG_iff hv2
          simp only [List.length_map, List.length_take] at h1 h2 h3
          rw [List.take_of_length_le (by omega), List.take_of_length_le (by omega)] at hv2
          exact hv hv2

/-- Walks. -/
def stOk (s : St) : Bool := inB s.ed 1 99
def fmtS (s : St) : List UInt8 := 32 :: (Lib.itoa s.ed ++ if s.inv then [45] else [])
def fmtWk (st : Int) (l : List St) : List UInt8 := if inB st 0 4 && decide (l.length ≤ 60) && l.all stOk then Lib.itoa st ++ l.flatMap fmtS else []
def dashB (p : List UInt8) : Bool := p.getLast? == some 45
def stP (p : List UInt8) : St := if dashB p then ⟨(prsI p.dropLast).getD 0, true⟩ else ⟨(prsI p).getD 0, false⟩
def prsW (l : List UInt8) : Option (Int × List St) := match cutL 32 l with
  | [] => none
  | p :: r => if fmtWk ((prsI p).getD 0) (r.map stP) = l then some ((prsI p).getD 0, r.map stP) else none
def prsWS (l : List UInt8) : Option (Int × List St) := match cutL 32 l with
  | [] => none
  | p :: r => if l ≠ [] ∧ fmtWk ((prsI p).getD 0) ((r.take 61).map stP) = l then some ((prsI p).getD 0, (r.take 61).map stP) else none
theorem prsWS_eq (l : List UInt8) : prsWS l = prsW l := by
  have hg := cutL_glue 32 l
  unfold prsWS prsW
  cases hc : cutL 32 l with
  | nil => rfl
  | cons p r =>
    simp only
    by_cases h0 : l = []
    · subst h0
      simp [cutL] at hc
      obtain ⟨rfl, rfl⟩ := hc
      rw [if_neg (by simp), if_neg]
      have e1 : fmtWk ((prsI []).getD 0) (List.map stP []) = Lib.itoa 0 ++ [] := rfl
      rw [e1]
      obtain ⟨b, hb, _⟩ := itoa_dig (x := 0) (by omega) (by omega)
      rw [hb]
      simp
    · by_cases hr : r.length ≤ 61
      · rw [List.take_of_length_le hr]
        simp [h0]
      · rw [if_neg, if_neg]
        · intro h
          rw [fmtWk, if_neg] at h
          · exact h0 h.symm
          · simp; omega
        · rintro ⟨_, h⟩
          rw [fmtWk, if_neg] at h
          · exact h0 h.symm
          · simp [List.length_take]; omega
theorem suffix_one (c : UInt8) (p : List UInt8) : Lib.hasSuffix p [c] = (p.getLast? == some c) := by
  unfold Lib.hasSuffix
  rcases List.eq_nil_or_concat p with rfl | ⟨q, b, rfl⟩
  · rfl
  · simp only [List.concat_eq_append, List.getLast?_append, List.getLast?_singleton, Option.some_or]
    rw [List.isSuffixOf, List.reverse_append]
    simp only [List.reverse_cons, List.reverse_nil, List.nil_append, List.singleton_append, List.isPrefixOf, Bool.and_true]
    exact BEq.comm
theorem trim_one (c : UInt8) (p : List UInt8) : Lib.trimSuffix p [c] = if p.getLast? == some c then p.dropLast else p := by
  unfold Lib.trimSuffix
  rw [suffix_one, List.dropLast_eq_take]
  rfl

/-- Batches. -/
def fmtC (c : Cg) : List UInt8 := (if c.ins then 43 else 45) :: fmtE c.e
def fmtBt (l : List Cg) : List UInt8 := if decide (l.length ≤ 6) && l.all (fun c => okE 5 c.e) then Lib.join (l.map fmtC) [32] else []
def prsC (p : List UInt8) : Option Cg := match p with
  | [] => none
  | b :: r => (prsE r).map fun e => ⟨b == 43, e⟩
def prsCs : List (List UInt8) → Option (List Cg)
  | [] => some []
  | p :: r => match prsC p with
    | some e => (prsCs r).map (e :: ·)
    | none => none
def prsBt (l : List UInt8) : Option (List Cg) := if l = [] then some [] else match prsCs (cutL 32 l) with
  | some cs => if fmtBt cs = l then some cs else none
  | none => none
def prsBtS (l : List UInt8) : Option (List Cg) := if l = [] then some [] else match prsCs ((cutL 32 l).take 7) with
  | some cs => if fmtBt cs = l then some cs else none
  | none => none
theorem prsCs_len : ∀ {r : List (List UInt8)} {es : List Cg}, prsCs r = some es → es.length = r.length
  | [], es, h => by simp [prsCs] at h; subst h; simp
  | p :: r, es, h => by
    unfold prsCs at h
    cases hp : prsC p with
    | none => rw [hp] at h; cases h
    | some e =>
      rw [hp] at h
      simp only [Option.map_eq_some_iff] at h
      obtain ⟨t, ht, rfl⟩ := h
      simp [prsCs_len ht]
theorem prsCs_snoc : ∀ (r : List (List UInt8)) (es : List Cg) (p : List UInt8), prsCs r = some es → prsCs (r ++ [p]) = (prsC p).map (fun e => es ++ [e])
  | [], es, p, h => by
    simp [prsCs] at h; subst h
    simp only [List.nil_append, prsCs]
    cases prsC p <;> rfl
  | q :: r, es, p, h => by
    unfold prsCs at h
    cases hp : prsC q with
    | none => rw [hp] at h; cases h
    | some e =>
      rw [hp] at h
      simp only [Option.map_eq_some_iff] at h
      obtain ⟨t, ht, rfl⟩ := h
      simp only [List.cons_append, prsCs, hp, prsCs_snoc r t p ht]
      cases prsC p <;> rfl
theorem prsCs_bad : ∀ (r : List (List UInt8)) (p : List UInt8) (s : List (List UInt8)), prsC p = none → prsCs (r ++ p :: s) = none
  | [], p, s, h => by simp [prsCs, h]
  | q :: r, p, s, h => by
    simp only [List.cons_append, prsCs]
    cases prsC q with
    | none => rfl
    | some e => simp [prsCs_bad r p s h]
theorem prsCs_pre : ∀ (r : List (List UInt8)) (es : List Cg) (k : Nat), prsCs r = some es → ∃ t, prsCs (r.take k) = some t
  | [], es, k, h => ⟨[], by simp [prsCs]⟩
  | p :: r, es, 0, h => ⟨[], by simp [prsCs]⟩
  | p :: r, es, k + 1, h => by
    unfold prsCs at h
    cases hp : prsC p with
    | none => rw [hp] at h; cases h
    | some e =>
      rw [hp] at h
      simp only [Option.map_eq_some_iff] at h
      obtain ⟨t, ht, rfl⟩ := h
      obtain ⟨u, hu⟩ := prsCs_pre r t k ht
      exact ⟨e :: u, by simp [prsCs, hp, hu]⟩
theorem prsBtS_eq (l : List UInt8) : prsBtS l = prsBt l := by
  unfold prsBtS prsBt
  by_cases h0 : l = []
  · rw [if_pos h0, if_pos h0]
  · rw [if_neg h0, if_neg h0]
    by_cases hr : (cutL 32 l).length ≤ 7
    · rw [List.take_of_length_le hr]
    · have big : ∀ cs : List Cg, 6 < cs.length → ¬ fmtBt cs = l := by
        intro cs hl h
        unfold fmtBt at h
        rw [if_neg] at h
        · exact h0 h.symm
        · simp; omega
      have e1 : (match prsCs (cutL 32 l) with | some cs => if fmtBt cs = l then some cs else none | none => none) = none := by
        cases hp : prsCs (cutL 32 l) with
        | none => rfl
        | some cs =>
          simp only
          rw [if_neg (big cs (by have := prsCs_len hp; omega))]
      have e2 : (match prsCs ((cutL 32 l).take 7) with | some cs => if fmtBt cs = l then some cs else none | none => none) = none := by
        cases hp : prsCs ((cutL 32 l).take 7) with
        | none => rfl
        | some cs =>
          simp only
          rw [if_neg (big cs (by have := prsCs_len hp; rw [List.length_take] at this; omega))]
      rw [e1, e2]
end Go.Proofs.YtljggmgijadjaaaGreatDoor
