/- What the walks are told of the library's variables that they read: the table of powers of ten, strconv.ErrSyntax, bytealg.MaxLen. -/
import Derived.Test.YtljggmgijadjaaaGreatDoorBaseA
import Derived.Lib.LaidTab
import Derived.Lib.ItoaNum
import Derived.Stop.LaidErr
import Derived.Shelf.Vars
import Derived.Test.YtljggmgijadjaaaGreatDoorRows
namespace Go.Proofs.YtljggmgijadjaaaGreatDoor
open Go.RowKit Go.ChangeShapes Go.WideShapes Go.ChangeAt Go.Deep
set_option linter.unusedVariables false
theorem var_same {P : Program} {w w' : World} {n : String} {cs : Array Value} {g : Nat} (hg : P.globalNamed n = some g) (h : w.var? P n = some cs) (hk : w'.heap[g]? = w.heap[g]?) : w'.var? P n = some cs := by
  unfold World.var? at h ⊢
  simp only [hg, Option.bind_some] at h ⊢
  rw [hk]
  exact h
theorem var_lt {P : Program} {w : World} {n : String} {cs : Array Value} {g : Nat} (hg : P.globalNamed n = some g) (h : w.var? P n = some cs) : g < w.heap.size := by
  rcases Nat.lt_or_ge g w.heap.size with h' | h'
  · exact h'
  · unfold World.var? at h
    simp [hg, Array.getElem?_eq_none h'] at h
theorem gP : Tryz.prog.globalNamed "internal/strconv.uint64pow10" = some 3 := by kernel_rfl
theorem gE : Tryz.prog.globalNamed "strconv.ErrSyntax" = some 1 := by kernel_rfl
/-- The table of powers of ten holds its twenty numbers. -/
structure TabP (w : World) : Prop where
  t : Lib.TabIs Tryz.prog w "internal/strconv.uint64pow10" .u64 Lib.pow10Tab
/-- strconv.ErrSyntax holds an error. -/
structure TabE (w : World) : Prop where
  t : ∃ tp p, w.var? Tryz.prog "strconv.ErrSyntax" = some #[.iface tp p]
/-- bytealg.MaxLen holds an int. -/
structure TabM (w : World) : Prop where
  t : ∃ m, w.cell? ⟨0, 0, none⟩ = some (.int .i64 m)
theorem TabP.lt {w : World} (h : TabP w) : 3 < w.heap.size := var_lt gP h.t
theorem TabE.lt {w : World} (h : TabE w) : 1 < w.heap.size := by obtain ⟨_, _, h⟩ := h.t; exact var_lt gE h
theorem TabM.lt {w : World} (h : TabM w) : 0 < w.heap.size := by obtain ⟨_, h⟩ := h.t; exact World.block_lt_of_cell? w _ h
theorem TabP.keep {w w' : World} (h : TabP w) (hk : ∀ g, g < w.heap.size → g < 8 → w'.heap[g]? = w.heap[g]?) : TabP w' := ⟨var_same gP h.t (hk _ h.lt (by decide))⟩
theorem TabE.keep {w w' : World} (h : TabE w) (hk : ∀ g, g < w.heap.size → g < 8 → w'.heap[g]? = w.heap[g]?) : TabE w' := by
  have hl := h.lt
  obtain ⟨a, b, h⟩ := h.t
  exact ⟨a, b, var_same gE h (hk _ hl (by decide))⟩
theorem TabM.keep {w w' : World} (h : TabM w) (hk : ∀ g, g < w.heap.size → g < 8 → w'.heap[g]? = w.heap[g]?) : TabM w' := by
  have hl := h.lt
  obtain ⟨m, h⟩ := h.t
  exact ⟨m, (World.cell?_of_block (hk _ hl (by decide))).trans h⟩
theorem TabP.up {W w : World} (h : TabP W) (hb : Below W.heap.size W w) : TabP w := h.keep fun g hg _ => hb.block g hg
theorem TabE.up {W w : World} (h : TabE W) (hb : Below W.heap.size W w) : TabE w := h.keep fun g hg _ => hb.block g hg
theorem TabM.up {W w : World} (h : TabM W) (hb : Below W.heap.size W w) : TabM w := h.keep fun g hg _ => hb.block g hg

theorem gPType : (Tryz.prog.globals[3]?).map (·.type) = some 207 := by kernel_rfl
theorem pCells : Tryz.prog.cellsOf 207 = 20 := by kernel_rfl
theorem pCell : Tryz.prog.cellsOf 184 = 1 := by kernel_rfl
theorem pow_eq : (Rows.laid_internal_strconv_uint64pow10 : DataW Unit) = Lib.tabData .u64 Lib.pow10Tab := by kernel_rfl
theorem tabP_of {W : World} {rest : List (String × DataW Unit)} (h0 : laidMet Tryz.prog (("internal/strconv.uint64pow10", Rows.laid_internal_strconv_uint64pow10) :: rest) W) : TabP W := by
  have h : laidMet Tryz.prog (("internal/strconv.uint64pow10", Lib.tabData .u64 Lib.pow10Tab) :: rest) W := by rw [← pow_eq]; exact h0
  exact ⟨Lib.tabIs_of_head gP gPType Tryz.underlying207 Tryz.underlying184 pCell pCells h⟩
theorem gEType : (Tryz.prog.globals[1]?).map (·.type) = some 137 := by kernel_rfl
theorem cellsES : Tryz.prog.cellsOf 217 = 1 := by kernel_rfl
theorem cellsStr : Tryz.prog.cellsOf 9 = 1 := by kernel_rfl
theorem star : "*" ++ "errors.errorString" = "*errors.errorString" := by decide
theorem rowES (u : TypeId) (h : Tryz.prog.typeName? 3 u = some "*errors.errorString") : u = 215 :=
  typeName_ptr_named (nm := "errors.errorString") (by rw [star]; kernel_rfl) (by kernel_rfl) (by decide) u (by rw [star]; exact h)
theorem tabE_of {W : World} {text : List UInt8} {rest : List (String × DataW Unit)} (h : laidMet Tryz.prog (("strconv.ErrSyntax", .iface "*errors.errorString" (.ptr (.agg [.lit (.string text)]))) :: rest) W) : TabE W := by
  obtain ⟨a0, s0, hv0, -, -, -⟩ := laid_sentinel h gE gEType Tryz.underlying137 rowES Tryz.underlying215 Tryz.underlying217 rfl rfl Tryz.underlying9 cellsES cellsStr
  exact ⟨_, _, hv0⟩
theorem tabM_of {W : World} (h : W.ShapedOpen Tryz.prog) : TabM W :=
  ⟨Go.Proofs.cell_of_shapedOpen_int (g := 0) (t := 3) (zero := #[.int .i64 0]) h (of_decide_eq_true (by kernel_rfl)) (by kernel_rfl) rfl (by kernel_rfl) (by kernel_rfl) Tryz.underlying3⟩
end Go.Proofs.YtljggmgijadjaaaGreatDoor
