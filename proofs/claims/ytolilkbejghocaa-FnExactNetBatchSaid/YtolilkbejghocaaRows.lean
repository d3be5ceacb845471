/-
  No cell of these rows narrows 'for every input' (looked for: loops, veiled, ifaces, maps, wideKeys, modest, calm, conditions, laid).
  DERIVED. THE GIVEN ROWS OF THIS SEAT. 11 by the template 'for every input the law returns true; each argument reads behind the call as it read before'; 0 by the template 'total and deterministic' (their statements: YtolilkbejghocaaTotals.lean).
  GIVEN WITH THE SEED: the statements are not yours to turn. If you find one false, say at which input.
  Laid BY PROGRAM, IN A SANDBOX (cutbox-rows.mjs): the forced cells as the released guide's own fill.sh prints them over the translation 2869c67a7476b857… (all of the seat's roots in one cut). By AI agents, Wed Nov 11 2026. No macro, syntax, notation, axiom, sorry.
-/
import Derived.Test.YtolilkbejghocaaChecked
import GoSem.Claim
import GoSem.ClaimJoined
import GoSem.ClaimMapViews
import Derived.JoinedTies
import Derived.KernelRfl
namespace Go.Proofs.Ytolilkbejghocaa
/- THE CELL 'sum', in the pinned program and in every row, IS THE sha256 OF THE DUMP (.gsa) THAT YtolilkbejghocaaProg.lean LOADS. Nothing in Lean hashes anything: it is a label: what it is worth is what the hold of that sum in a sandbox is worth. -/
noncomputable def Try.pinned : Pinned := { name := "ytolilkbejghocaa", sum := "2869c67a7476b857032947499c701312e388fb6ab670f764393a148c42ce9098", checked := Try.checked }
namespace Rows
def none {H : Type} : Left H := { results := [], args := [] }

/-- 'laws.FnExactNetBatch': WHATEVER THE INPUT: true; the input reads as it did. -/
def fnExactNetBatchSpec : ChangeSpec := { name := "fnExactNetBatch", fn := fun _ => fun
  | [d] => { results := [.lit (.bool true)], args := [d] }
  | _ => none }
def fnExactNetBatchRow : OpenClaim := { program := "ytolilkbejghocaa", sum := "2869c67a7476b857032947499c701312e388fb6ab670f764393a148c42ce9098", func := "loop.example/g01922/laws.FnExactNetBatch", spec := "fnExactNetBatch", apart := false }
def FnExactNetBatchSaid : Prop := fnExactNetBatchRow.holds Try.pinned (OpenSpec.ofChange fnExactNetBatchSpec)

/-- ITS FALSE NEIGHBOUR: 'it returns false'. Refute it at one input. -/
def fnExactNetBatchWrong : ChangeSpec := { name := "fnExactNetBatch", fn := fun _ => fun
  | [d] => { results := [.lit (.bool false)], args := [d] }
  | _ => none }
def FnExactNetBatchWrongFalsely : Prop := fnExactNetBatchRow.holds Try.pinned (OpenSpec.ofChange fnExactNetBatchWrong)

/-- 'laws.FnExactEqualHistories': WHATEVER THE INPUT: true; the input reads as it did. -/
def fnExactEqualHistoriesSpec : ChangeSpec := { name := "fnExactEqualHistories", fn := fun _ => fun
  | [d1, d2] => { results := [.lit (.bool true)], args := [d1, d2] }
  | _ => none }
def fnExactEqualHistoriesRow : OpenClaim := { program := "ytolilkbejghocaa", sum := "2869c67a7476b857032947499c701312e388fb6ab670f764393a148c42ce9098", func := "loop.example/g01922/laws.FnExactEqualHistories", spec := "fnExactEqualHistories", unfollowed := true, recurses := true, apart := false }
def FnExactEqualHistoriesSaid : Prop := fnExactEqualHistoriesRow.holds Try.pinned (OpenSpec.ofChange fnExactEqualHistoriesSpec)

/-- ITS FALSE NEIGHBOUR: 'it returns false'. Refute it at one input. -/
def fnExactEqualHistoriesWrong : ChangeSpec := { name := "fnExactEqualHistories", fn := fun _ => fun
  | [d1, d2] => { results := [.lit (.bool false)], args := [d1, d2] }
  | _ => none }
def FnExactEqualHistoriesWrongFalsely : Prop := fnExactEqualHistoriesRow.holds Try.pinned (OpenSpec.ofChange fnExactEqualHistoriesWrong)

/-- 'laws.FnExactIsValidHistory': WHATEVER THE INPUT: true; the input reads as it did. -/
def fnExactIsValidHistorySpec : ChangeSpec := { name := "fnExactIsValidHistory", fn := fun _ => fun
  | [d] => { results := [.lit (.bool true)], args := [d] }
  | _ => none }
def fnExactIsValidHistoryRow : OpenClaim := { program := "ytolilkbejghocaa", sum := "2869c67a7476b857032947499c701312e388fb6ab670f764393a148c42ce9098", func := "loop.example/g01922/laws.FnExactIsValidHistory", spec := "fnExactIsValidHistory", apart := false }
def FnExactIsValidHistorySaid : Prop := fnExactIsValidHistoryRow.holds Try.pinned (OpenSpec.ofChange fnExactIsValidHistorySpec)

/-- ITS FALSE NEIGHBOUR: 'it returns false'. Refute it at one input. -/
def fnExactIsValidHistoryWrong : ChangeSpec := { name := "fnExactIsValidHistory", fn := fun _ => fun
  | [d] => { results := [.lit (.bool false)], args := [d] }
  | _ => none }
def FnExactIsValidHistoryWrongFalsely : Prop := fnExactIsValidHistoryRow.holds Try.pinned (OpenSpec.ofChange fnExactIsValidHistoryWrong)

/-- 'laws.FnExactDeleteEdge': WHATEVER THE INPUT: true; the input reads as it did. -/
def fnExactDeleteEdgeSpec : ChangeSpec := { name := "fnExactDeleteEdge", fn := fun _ => fun
  | [d1, d2] => { results := [.lit (.bool true)], args := [d1, d2] }
  | _ => none }
def fnExactDeleteEdgeRow : OpenClaim := { program := "ytolilkbejghocaa", sum := "2869c67a7476b857032947499c701312e388fb6ab670f764393a148c42ce9098", func := "loop.example/g01922/laws.FnExactDeleteEdge", spec := "fnExactDeleteEdge", unfollowed := true, recurses := true, apart := false }
def FnExactDeleteEdgeSaid : Prop := fnExactDeleteEdgeRow.holds Try.pinned (OpenSpec.ofChange fnExactDeleteEdgeSpec)

/-- ITS FALSE NEIGHBOUR: 'it returns false'. Refute it at one input. -/
def fnExactDeleteEdgeWrong : ChangeSpec := { name := "fnExactDeleteEdge", fn := fun _ => fun
  | [d1, d2] => { results := [.lit (.bool false)], args := [d1, d2] }
  | _ => none }
def FnExactDeleteEdgeWrongFalsely : Prop := fnExactDeleteEdgeRow.holds Try.pinned (OpenSpec.ofChange fnExactDeleteEdgeWrong)

/-- 'laws.FnExactInsertEdge': WHATEVER THE INPUT: true; the input reads as it did. -/
def fnExactInsertEdgeSpec : ChangeSpec := { name := "fnExactInsertEdge", fn := fun _ => fun
  | [d1, d2] => { results := [.lit (.bool true)], args := [d1, d2] }
  | _ => none }
def fnExactInsertEdgeRow : OpenClaim := { program := "ytolilkbejghocaa", sum := "2869c67a7476b857032947499c701312e388fb6ab670f764393a148c42ce9098", func := "loop.example/g01922/laws.FnExactInsertEdge", spec := "fnExactInsertEdge", inPlace := ["slices.overlaps[loop.example/g01922/impl.Edge]"], unfollowed := true, recurses := true, apart := false }
def FnExactInsertEdgeSaid : Prop := fnExactInsertEdgeRow.holds Try.pinned (OpenSpec.ofChange fnExactInsertEdgeSpec)

/-- ITS FALSE NEIGHBOUR: 'it returns false'. Refute it at one input. -/
def fnExactInsertEdgeWrong : ChangeSpec := { name := "fnExactInsertEdge", fn := fun _ => fun
  | [d1, d2] => { results := [.lit (.bool false)], args := [d1, d2] }
  | _ => none }
def FnExactInsertEdgeWrongFalsely : Prop := fnExactInsertEdgeRow.holds Try.pinned (OpenSpec.ofChange fnExactInsertEdgeWrong)

/-- 'laws.FnExactIsApplicable': WHATEVER THE INPUT: true; the input reads as it did. -/
def fnExactIsApplicableSpec : ChangeSpec := { name := "fnExactIsApplicable", fn := fun _ => fun
  | [d1, d2] => { results := [.lit (.bool true)], args := [d1, d2] }
  | _ => none }
def fnExactIsApplicableRow : OpenClaim := { program := "ytolilkbejghocaa", sum := "2869c67a7476b857032947499c701312e388fb6ab670f764393a148c42ce9098", func := "loop.example/g01922/laws.FnExactIsApplicable", spec := "fnExactIsApplicable", inPlace := ["slices.overlaps[loop.example/g01922/impl.Edge]"], unfollowed := true, recurses := true, apart := false }
def FnExactIsApplicableSaid : Prop := fnExactIsApplicableRow.holds Try.pinned (OpenSpec.ofChange fnExactIsApplicableSpec)

/-- ITS FALSE NEIGHBOUR: 'it returns false'. Refute it at one input. -/
def fnExactIsApplicableWrong : ChangeSpec := { name := "fnExactIsApplicable", fn := fun _ => fun
  | [d1, d2] => { results := [.lit (.bool false)], args := [d1, d2] }
  | _ => none }
def FnExactIsApplicableWrongFalsely : Prop := fnExactIsApplicableRow.holds Try.pinned (OpenSpec.ofChange fnExactIsApplicableWrong)

/-- 'laws.FnExactApplyBatch': WHATEVER THE INPUT: true; the input reads as it did. -/
def fnExactApplyBatchSpec : ChangeSpec := { name := "fnExactApplyBatch", fn := fun _ => fun
  | [d1, d2] => { results := [.lit (.bool true)], args := [d1, d2] }
  | _ => none }
def fnExactApplyBatchRow : OpenClaim := { program := "ytolilkbejghocaa", sum := "2869c67a7476b857032947499c701312e388fb6ab670f764393a148c42ce9098", func := "loop.example/g01922/laws.FnExactApplyBatch", spec := "fnExactApplyBatch", inPlace := ["slices.overlaps[loop.example/g01922/impl.Edge]"], unfollowed := true, recurses := true, apart := false }
def FnExactApplyBatchSaid : Prop := fnExactApplyBatchRow.holds Try.pinned (OpenSpec.ofChange fnExactApplyBatchSpec)

/-- ITS FALSE NEIGHBOUR: 'it returns false'. Refute it at one input. -/
def fnExactApplyBatchWrong : ChangeSpec := { name := "fnExactApplyBatch", fn := fun _ => fun
  | [d1, d2] => { results := [.lit (.bool false)], args := [d1, d2] }
  | _ => none }
def FnExactApplyBatchWrongFalsely : Prop := fnExactApplyBatchRow.holds Try.pinned (OpenSpec.ofChange fnExactApplyBatchWrong)

/-- 'laws.FnExactIsSimplePath': WHATEVER THE INPUT: true; the input reads as it did. -/
def fnExactIsSimplePathSpec : ChangeSpec := { name := "fnExactIsSimplePath", fn := fun _ => fun
  | [d1, d2] => { results := [.lit (.bool true)], args := [d1, d2] }
  | _ => none }
def fnExactIsSimplePathRow : OpenClaim := { program := "ytolilkbejghocaa", sum := "2869c67a7476b857032947499c701312e388fb6ab670f764393a148c42ce9098", func := "loop.example/g01922/laws.FnExactIsSimplePath", spec := "fnExactIsSimplePath", unfollowed := true, recurses := true, apart := false }
def FnExactIsSimplePathSaid : Prop := fnExactIsSimplePathRow.holds Try.pinned (OpenSpec.ofChange fnExactIsSimplePathSpec)

/-- ITS FALSE NEIGHBOUR: 'it returns false'. Refute it at one input. -/
def fnExactIsSimplePathWrong : ChangeSpec := { name := "fnExactIsSimplePath", fn := fun _ => fun
  | [d1, d2] => { results := [.lit (.bool false)], args := [d1, d2] }
  | _ => none }
def FnExactIsSimplePathWrongFalsely : Prop := fnExactIsSimplePathRow.holds Try.pinned (OpenSpec.ofChange fnExactIsSimplePathWrong)

/-- 'laws.FnExactNodesAfter': WHATEVER THE INPUT: true; the input reads as it did. -/
def fnExactNodesAfterSpec : ChangeSpec := { name := "fnExactNodesAfter", fn := fun _ => fun
  | [d1, d2, d3] => { results := [.lit (.bool true)], args := [d1, d2, d3] }
  | _ => none }
def fnExactNodesAfterRow : OpenClaim := { program := "ytolilkbejghocaa", sum := "2869c67a7476b857032947499c701312e388fb6ab670f764393a148c42ce9098", func := "loop.example/g01922/laws.FnExactNodesAfter", spec := "fnExactNodesAfter", unfollowed := true, recurses := true, apart := false }
def FnExactNodesAfterSaid : Prop := fnExactNodesAfterRow.holds Try.pinned (OpenSpec.ofChange fnExactNodesAfterSpec)

/-- ITS FALSE NEIGHBOUR: 'it returns false'. Refute it at one input. -/
def fnExactNodesAfterWrong : ChangeSpec := { name := "fnExactNodesAfter", fn := fun _ => fun
  | [d1, d2, d3] => { results := [.lit (.bool false)], args := [d1, d2, d3] }
  | _ => none }
def FnExactNodesAfterWrongFalsely : Prop := fnExactNodesAfterRow.holds Try.pinned (OpenSpec.ofChange fnExactNodesAfterWrong)

/-- 'laws.FnExactFormatWord': WHATEVER THE INPUT: true; the input reads as it did. -/
def fnExactFormatWordSpec : ChangeSpec := { name := "fnExactFormatWord", fn := fun _ => fun
  | [d] => { results := [.lit (.bool true)], args := [d] }
  | _ => none }
def fnExactFormatWordRow : OpenClaim := { program := "ytolilkbejghocaa", sum := "2869c67a7476b857032947499c701312e388fb6ab670f764393a148c42ce9098", func := "loop.example/g01922/laws.FnExactFormatWord", spec := "fnExactFormatWord", inPlace := ["internal/abi.NoEscape", "internal/bytealg.MakeNoZero"], apart := false }
def FnExactFormatWordSaid : Prop := fnExactFormatWordRow.holds Try.pinned (OpenSpec.ofChange fnExactFormatWordSpec)

/-- ITS FALSE NEIGHBOUR: 'it returns false'. Refute it at one input. -/
def fnExactFormatWordWrong : ChangeSpec := { name := "fnExactFormatWord", fn := fun _ => fun
  | [d] => { results := [.lit (.bool false)], args := [d] }
  | _ => none }
def FnExactFormatWordWrongFalsely : Prop := fnExactFormatWordRow.holds Try.pinned (OpenSpec.ofChange fnExactFormatWordWrong)

/-- 'laws.FnSteps': WHATEVER THE INPUT: true; the input reads as it did. -/
def fnStepsSpec : ChangeSpec := { name := "fnSteps", fn := fun _ => fun
  | [d] => { results := [.lit (.bool true)], args := [d] }
  | _ => none }
def fnStepsRow : OpenClaim := { program := "ytolilkbejghocaa", sum := "2869c67a7476b857032947499c701312e388fb6ab670f764393a148c42ce9098", func := "loop.example/g01922/laws.FnSteps", spec := "fnSteps", unfollowed := true, recurses := true, apart := false }
def FnStepsSaid : Prop := fnStepsRow.holds Try.pinned (OpenSpec.ofChange fnStepsSpec)

/-- ITS FALSE NEIGHBOUR: 'it returns false'. Refute it at one input. -/
def fnStepsWrong : ChangeSpec := { name := "fnSteps", fn := fun _ => fun
  | [d] => { results := [.lit (.bool false)], args := [d] }
  | _ => none }
def FnStepsWrongFalsely : Prop := fnStepsRow.holds Try.pinned (OpenSpec.ofChange fnStepsWrong)

/- THE SECOND FORM. 'bulk': how many values and letters a reading holds, each counted each time it is reached (what is shared counts as often as it is met; a slice's spare places count too). A statement '..UptoSaid' is the law's where the arguments, and the package variables that the reading takes, are together of bulk at most 1048576: NARROWER than '..Said'. Prove '..Said' where nothing that the law and all that it calls make is longer than what came in: it says more and counts as full. Else prove '..UptoSaid'. A law counts once. -/
mutual
def uptoBulk {H : Type} : DataW H → Nat
  | .lit (.string bytes) => bytes.length + 1
  | .lit _ => 1
  | .nil => 1
  | .ptr d => uptoBulk d + 1
  | .slice elems spare => uptoBulkAll elems + uptoBulkAll spare + 1
  | .agg parts => uptoBulkAll parts + 1
  | .iface _ d => uptoBulk d + 1
  | .map entries => uptoBulkEntries entries + 1
  | .held _ => 1
def uptoBulkAll {H : Type} : List (DataW H) → Nat
  | [] => 0
  | d :: r => uptoBulk d + uptoBulkAll r
def uptoBulkEntries {H : Type} : List (Lit × DataW H) → Nat
  | [] => 0
  | x :: r => uptoBulkEntry x + uptoBulkEntries r
def uptoBulkEntry {H : Type} : Lit × DataW H → Nat
  | (.string bytes, d) => bytes.length + uptoBulk d + 1
  | (_, d) => uptoBulk d + 1
 end
def uptoSmall : (H : Type) → List (DataW H) → Bool := fun _ ds => decide (uptoBulkAll ds ≤ 1048576)
def OpenSpec.upto (s : _root_.Go.ChangeSpec) : _root_.Go.OpenSpec := { _root_.Go.OpenSpec.ofChange s with cond := some uptoSmall }

/-- 'laws.FnExactNetBatch', WHERE WHAT IT READS IS OF BULK AT MOST 1048576: true; the input reads as it did. -/
def fnExactNetBatchUptoRow : OpenClaim := { program := "ytolilkbejghocaa", sum := "2869c67a7476b857032947499c701312e388fb6ab670f764393a148c42ce9098", func := "loop.example/g01922/laws.FnExactNetBatch", spec := "fnExactNetBatch", apart := false, narrowed := true }
def FnExactNetBatchUptoSaid : Prop := fnExactNetBatchUptoRow.holds Try.pinned (OpenSpec.upto fnExactNetBatchSpec)

/-- 'laws.FnExactEqualHistories', WHERE WHAT IT READS IS OF BULK AT MOST 1048576: true; the input reads as it did. -/
def fnExactEqualHistoriesUptoRow : OpenClaim := { program := "ytolilkbejghocaa", sum := "2869c67a7476b857032947499c701312e388fb6ab670f764393a148c42ce9098", func := "loop.example/g01922/laws.FnExactEqualHistories", spec := "fnExactEqualHistories", unfollowed := true, recurses := true, apart := false, narrowed := true }
def FnExactEqualHistoriesUptoSaid : Prop := fnExactEqualHistoriesUptoRow.holds Try.pinned (OpenSpec.upto fnExactEqualHistoriesSpec)

/-- 'laws.FnExactIsValidHistory', WHERE WHAT IT READS IS OF BULK AT MOST 1048576: true; the input reads as it did. -/
def fnExactIsValidHistoryUptoRow : OpenClaim := { program := "ytolilkbejghocaa", sum := "2869c67a7476b857032947499c701312e388fb6ab670f764393a148c42ce9098", func := "loop.example/g01922/laws.FnExactIsValidHistory", spec := "fnExactIsValidHistory", apart := false, narrowed := true }
def FnExactIsValidHistoryUptoSaid : Prop := fnExactIsValidHistoryUptoRow.holds Try.pinned (OpenSpec.upto fnExactIsValidHistorySpec)

/-- 'laws.FnExactDeleteEdge', WHERE WHAT IT READS IS OF BULK AT MOST 1048576: true; the input reads as it did. -/
def fnExactDeleteEdgeUptoRow : OpenClaim := { program := "ytolilkbejghocaa", sum := "2869c67a7476b857032947499c701312e388fb6ab670f764393a148c42ce9098", func := "loop.example/g01922/laws.FnExactDeleteEdge", spec := "fnExactDeleteEdge", unfollowed := true, recurses := true, apart := false, narrowed := true }
def FnExactDeleteEdgeUptoSaid : Prop := fnExactDeleteEdgeUptoRow.holds Try.pinned (OpenSpec.upto fnExactDeleteEdgeSpec)

/-- 'laws.FnExactInsertEdge', WHERE WHAT IT READS IS OF BULK AT MOST 1048576: true; the input reads as it did. -/
def fnExactInsertEdgeUptoRow : OpenClaim := { program := "ytolilkbejghocaa", sum := "2869c67a7476b857032947499c701312e388fb6ab670f764393a148c42ce9098", func := "loop.example/g01922/laws.FnExactInsertEdge", spec := "fnExactInsertEdge", inPlace := ["slices.overlaps[loop.example/g01922/impl.Edge]"], unfollowed := true, recurses := true, apart := false, narrowed := true }
def FnExactInsertEdgeUptoSaid : Prop := fnExactInsertEdgeUptoRow.holds Try.pinned (OpenSpec.upto fnExactInsertEdgeSpec)

/-- 'laws.FnExactIsApplicable', WHERE WHAT IT READS IS OF BULK AT MOST 1048576: true; the input reads as it did. -/
def fnExactIsApplicableUptoRow : OpenClaim := { program := "ytolilkbejghocaa", sum := "2869c67a7476b857032947499c701312e388fb6ab670f764393a148c42ce9098", func := "loop.example/g01922/laws.FnExactIsApplicable", spec := "fnExactIsApplicable", inPlace := ["slices.overlaps[loop.example/g01922/impl.Edge]"], unfollowed := true, recurses := true, apart := false, narrowed := true }
def FnExactIsApplicableUptoSaid : Prop := fnExactIsApplicableUptoRow.holds Try.pinned (OpenSpec.upto fnExactIsApplicableSpec)

/-- 'laws.FnExactApplyBatch', WHERE WHAT IT READS IS OF BULK AT MOST 1048576: true; the input reads as it did. -/
def fnExactApplyBatchUptoRow : OpenClaim := { program := "ytolilkbejghocaa", sum := "2869c67a7476b857032947499c701312e388fb6ab670f764393a148c42ce9098", func := "loop.example/g01922/laws.FnExactApplyBatch", spec := "fnExactApplyBatch", inPlace := ["slices.overlaps[loop.example/g01922/impl.Edge]"], unfollowed := true, recurses := true, apart := false, narrowed := true }
def FnExactApplyBatchUptoSaid : Prop := fnExactApplyBatchUptoRow.holds Try.pinned (OpenSpec.upto fnExactApplyBatchSpec)

/-- 'laws.FnExactIsSimplePath', WHERE WHAT IT READS IS OF BULK AT MOST 1048576: true; the input reads as it did. -/
def fnExactIsSimplePathUptoRow : OpenClaim := { program := "ytolilkbejghocaa", sum := "2869c67a7476b857032947499c701312e388fb6ab670f764393a148c42ce9098", func := "loop.example/g01922/laws.FnExactIsSimplePath", spec := "fnExactIsSimplePath", unfollowed := true, recurses := true, apart := false, narrowed := true }
def FnExactIsSimplePathUptoSaid : Prop := fnExactIsSimplePathUptoRow.holds Try.pinned (OpenSpec.upto fnExactIsSimplePathSpec)

/-- 'laws.FnExactNodesAfter', WHERE WHAT IT READS IS OF BULK AT MOST 1048576: true; the input reads as it did. -/
def fnExactNodesAfterUptoRow : OpenClaim := { program := "ytolilkbejghocaa", sum := "2869c67a7476b857032947499c701312e388fb6ab670f764393a148c42ce9098", func := "loop.example/g01922/laws.FnExactNodesAfter", spec := "fnExactNodesAfter", unfollowed := true, recurses := true, apart := false, narrowed := true }
def FnExactNodesAfterUptoSaid : Prop := fnExactNodesAfterUptoRow.holds Try.pinned (OpenSpec.upto fnExactNodesAfterSpec)

/-- 'laws.FnExactFormatWord', WHERE WHAT IT READS IS OF BULK AT MOST 1048576: true; the input reads as it did. -/
def fnExactFormatWordUptoRow : OpenClaim := { program := "ytolilkbejghocaa", sum := "2869c67a7476b857032947499c701312e388fb6ab670f764393a148c42ce9098", func := "loop.example/g01922/laws.FnExactFormatWord", spec := "fnExactFormatWord", inPlace := ["internal/abi.NoEscape", "internal/bytealg.MakeNoZero"], apart := false, narrowed := true }
def FnExactFormatWordUptoSaid : Prop := fnExactFormatWordUptoRow.holds Try.pinned (OpenSpec.upto fnExactFormatWordSpec)

/-- 'laws.FnSteps', WHERE WHAT IT READS IS OF BULK AT MOST 1048576: true; the input reads as it did. -/
def fnStepsUptoRow : OpenClaim := { program := "ytolilkbejghocaa", sum := "2869c67a7476b857032947499c701312e388fb6ab670f764393a148c42ce9098", func := "loop.example/g01922/laws.FnSteps", spec := "fnSteps", unfollowed := true, recurses := true, apart := false, narrowed := true }
def FnStepsUptoSaid : Prop := fnStepsUptoRow.holds Try.pinned (OpenSpec.upto fnStepsSpec)

end Rows
end Go.Proofs.Ytolilkbejghocaa
