/- The program's head word: three closed facts of every row, proved without laying out the whole head. -/
import Derived.Test.YtfigilkggjokkaaRows
import Derived.JoinedOf
import Derived.KernelRfl
namespace Go.Proofs.Ytfigilkggjokkaa
open Go
theorem words_cons : ∀ (a r : List Char), (∀ c ∈ a, c ≠ (Char.ofNat 32)) → wordsSigns (a ++ (Char.ofNat 32) :: r) = a :: wordsSigns r
  | [], r, _ => by simp [wordsSigns]
  | c :: a, r, h => by
    have ih := words_cons a r fun x hx => h x (List.mem_cons_of_mem _ hx)
    have hc : c ≠ (Char.ofNat 32) := h c List.mem_cons_self
    rw [List.cons_append]
    generalize wordsSigns r = t at *
    unfold wordsSigns
    split
    · simp at *
    · rename_i heq
      simp at heq
      exact absurd heq.1 hc
    · rename_i heq
      simp at heq
      obtain ⟨rfl, rfl⟩ := heq
      rw [ih]
theorem sum_plain {l : List Char} (h : isSumSigns l = true) : ∀ c ∈ l, c ≠ (Char.ofNat 32) := by
  intro c hc hs
  subst hs
  simp only [isSumSigns, Bool.and_eq_true, List.all_eq_true] at h
  exact absurd (h.2 _ hc) (by decide)
theorem head_of {P : Program} {cs : List Char} (h : P.initOrder = String.ofList cs) {sum r : List Char} (hs : isSumSigns sum = true)
    (hc : cs = [(Char.ofNat 104), (Char.ofNat 97), (Char.ofNat 114), (Char.ofNat 110), (Char.ofNat 101), (Char.ofNat 115), (Char.ofNat 115)] ++ (Char.ofNat 32) :: (sum ++ (Char.ofNat 32) :: ([(Char.ofNat 99), (Char.ofNat 117), (Char.ofNat 116)] ++ (Char.ofNat 32) :: r))) : behindMainWord (wordsSigns P.initOrder.toList) = [(Char.ofNat 99), (Char.ofNat 117), (Char.ofNat 116)] :: wordsSigns r := by
  rw [h, String.toList_ofList, hc, words_cons _ _ (by decide), words_cons _ _ (sum_plain hs), words_cons _ _ (by decide)]
  unfold behindMainWord
  dsimp only
  rw [hs]
  rfl
theorem strip_cut (rest : List (List Char)) : stripLifts liftWords ([(Char.ofNat 99), (Char.ofNat 117), (Char.ofNat 116)] :: rest) = ([], [(Char.ofNat 99), (Char.ofNat 117), (Char.ofNat 116)] :: rest) := rfl
theorem mayEnter_of {P : Program} {rest : List (List Char)} (h : behindMainWord (wordsSigns P.initOrder.toList) = [(Char.ofNat 99), (Char.ofNat 117), (Char.ofNat 116)] :: rest) (h1 : P.laysLater = false) (h2 : P.bearsReflect = false) (h3 : P.doorFits [] = true) : P.mayEnter = true := by
  unfold Program.mayEnter
  rw [h]
  dsimp only
  rw [strip_cut, h1, h2, h3]
  simp
theorem headLifts_of {P : Program} {rest : List (List Char)} (h : behindMainWord (wordsSigns P.initOrder.toList) = [(Char.ofNat 99), (Char.ofNat 117), (Char.ofNat 116)] :: rest) : P.headLifts = [] := by
  unfold Program.headLifts
  rw [h, strip_cut]
  simp
theorem lifts_of {P : Program} {rest : List (List Char)} (h : behindMainWord (wordsSigns P.initOrder.toList) = [(Char.ofNat 99), (Char.ofNat 117), (Char.ofNat 116)] :: rest) : P.liftsFinal = false := by
  unfold Program.liftsFinal
  rw [h, headLifts_of h]
  simp
theorem make_of {P : Program} {rest : List (List Char)} (h : behindMainWord (wordsSigns P.initOrder.toList) = [(Char.ofNat 99), (Char.ofNat 117), (Char.ofNat 116)] :: rest) : P.make = some .cut := by
  unfold Program.make
  rw [h]
  simp
set_option maxRecDepth 1000000 in
theorem ordl : ∃ cs : List Char, Try.prog.initOrder = String.ofList cs ∧ cs = [(Char.ofNat 104), (Char.ofNat 97), (Char.ofNat 114), (Char.ofNat 110), (Char.ofNat 101), (Char.ofNat 115), (Char.ofNat 115)] ++ (Char.ofNat 32) :: ((cs.drop 8).take 64 ++ (Char.ofNat 32) :: ([(Char.ofNat 99), (Char.ofNat 117), (Char.ofNat 116)] ++ (Char.ofNat 32) :: cs.drop 77)) ∧ isSumSigns ((cs.drop 8).take 64) = true :=
  ⟨_, rfl, by kernel_rfl, by kernel_rfl⟩
theorem headIs : ∃ rest, behindMainWord (wordsSigns Try.prog.initOrder.toList) = [(Char.ofNat 99), (Char.ofNat 117), (Char.ofNat 116)] :: rest := by
  obtain ⟨cs, h1, h2, h3⟩ := ordl
  exact ⟨_, head_of h1 h3 h2⟩
theorem frMay : Try.prog.mayEnter = true := by
  obtain ⟨rest, h⟩ := headIs
  exact mayEnter_of h (by as_aux_lemma => kernel_rfl) (by as_aux_lemma => kernel_rfl) (by as_aux_lemma => kernel_rfl)
theorem frLifts (c : OpenClaim) (hc : c.lifted = false) : (c.lifted == Try.prog.liftsFinal) = true := by
  obtain ⟨rest, h⟩ := headIs
  rw [lifts_of h, hc]
  rfl
theorem frMake (c : OpenClaim) (hc : c.make = .cut) : (Try.prog.make == some c.make) = true := by
  obtain ⟨rest, h⟩ := headIs
  rw [make_of h, hc]
  rfl
end Go.Proofs.Ytfigilkggjokkaa
