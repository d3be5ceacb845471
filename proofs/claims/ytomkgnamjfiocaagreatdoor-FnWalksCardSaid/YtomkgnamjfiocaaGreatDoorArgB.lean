/- Slices of bytes that came in. -/
import Derived.Test.YtomkgnamjfiocaaGreatDoorBaseA
import Derived.Test.YtomkgnamjfiocaaGreatDoorBaseB
namespace Go.Proofs.YtomkgnamjfiocaaGreatDoor
open Go.RowKit Go.ChangeShapes Go.WideShapes Go.ChangeAt Go.Deep
set_option linter.unusedVariables false
/-- What the walk is told of a slice of bytes that came in. -/
def ArgBytes (w : World) (v : Value) : Prop :=
  ∃ (A : Option Addr) (n c : Nat) (bs : List UInt8), v = .slice A n c ∧ bs.length = n ∧ n ≤ c ∧ c ≤ maxLen ∧ Reads w w.heap.size 1 A n (bs.map byv)
theorem byte_of {z : Int} (h : (Lit.int .u8 z).wf = true) : byv (UInt8.ofNat z.toNat) = .int .u8 z := by
  have hz : 0 ≤ z ∧ z < 256 := by
    have h1 : IntKind.u8.min ≤ z ∧ z ≤ IntKind.u8.max := by simpa only [Lit.wf, Bool.and_eq_true, decide_eq_true_eq] using h
    have h2 : IntKind.u8.min = 0 := by decide
    have h3 : IntKind.u8.max = 255 := by decide
    rw [h2, h3] at h1
    omega
  have : ((UInt8.ofNat z.toNat).toNat : Int) = z := by
    rw [UInt8.toNat_ofNat']
    omega
  rw [byv, this]
theorem argBytes_of {H : Type} {enc : TypeId × Value → H} {P : Program} {t e : TypeId} (ht : P.underlying t = some (.slice e)) (he : P.underlying e = some (.int .u8)) (hc : P.cellsOf e = 1) {W : World} {spare : Nat → Bool} {held : Bool} {base : Nat}
    {n0 len cap : Nat} {a0 : Option Addr} {x : DataW H × List MemPlace} (hf : DataW.trod enc P W base spare held n0 t [.slice a0 len cap] = some x) : ArgBytes W (.slice a0 len cap) := by
  have hlt := DataW.trod_lt (w := W) n0 _ _ _ hf
  rcases open_ints ht he hc hf with ⟨hcs, _⟩ | ⟨y, l, c, zs, hcs, _, hl, hm, hz, hx, hcell, hwz⟩
  · simp at hcs
    obtain ⟨rfl, rfl, rfl⟩ := hcs
    exact ⟨none, 0, 0, [], rfl, rfl, Nat.le_refl _, Nat.zero_le _, Reads.none_⟩
  · simp at hcs
    obtain ⟨rfl, rfl, rfl⟩ := hcs
    have hz' : len ≤ zs.length := by rw [hz]; split <;> omega
    have hmap : ((zs.take len).map fun z => UInt8.ofNat z.toNat).map byv = (zs.take len).map (Value.int .u8) := by
      rw [List.map_map]
      exact List.map_congr_left fun z hzm => byte_of (hwz z (List.mem_of_mem_take hzm))
    refine ⟨some y, len, cap, (zs.take len).map fun z => UInt8.ofNat z.toNat, rfl, by rw [List.length_map, List.length_take]; omega, hl, hm, ?_⟩
    rw [hmap]
    refine ⟨by rw [List.length_map, List.length_take]; omega, fun hn => ⟨y, rfl, ?_, fun j u hu => ?_⟩⟩
    · have h0 := hcell 0 (by omega)
      have := World.block_lt_of_cell? W _ h0
      rwa [block_of_add] at this
    · rw [List.getElem?_map] at hu
      rcases Nat.lt_or_ge j len with hj | hj
      · rw [List.getElem?_take, if_pos hj] at hu
        have h0 := hcell j (by omega)
        rw [h0]
        rw [List.getD_eq_getElem?_getD]
        cases hzj : zs[j]? with
        | none => rw [hzj] at hu; simp at hu
        | some q => rw [hzj] at hu; simpa using hu
      · rw [List.getElem?_take, if_neg (by omega)] at hu
        simp at hu
set_option maxRecDepth 100000 in
theorem argBytes {H : Type} {enc : TypeId × Value → H} {W : World} {spare : Nat → Bool} {held : Bool} {base b0 : Nat} {r : Reach} {v : Value} {d : DataW H} {p : List MemPlace} (hv : Value.okWide Tryz.prog W r b0 22 v)
    (h : DataW.Trod enc Tryz.prog W base spare held 22 v d p) : ArgBytes W v := by
  obtain ⟨a0, len, cap, rfl⟩ := okWide_slice Tryz.underlying22 hv
  obtain ⟨fuel, hf⟩ := h
  exact argBytes_of Tryz.underlying22 Tryz.underlying5 (by kernel_rfl) hf
set_option maxRecDepth 4000 in
set_option maxHeartbeats 400000 in
theorem big_is (w : World) (A : Option Addr) (n c : Nat) : Calls Tryz.prog 5 #[.slice A n c] w fun e w' => e = .returned (.bool (decide ((1048576 : Int) < n))) ∧ w' = w := by
  go_enter Tryz.func5, Tryz.ntmps5
  go_wp2
  go_ret
  exact ⟨rfl, rfl⟩
end Go.Proofs.YtomkgnamjfiocaaGreatDoor
