/-
  No cell of these rows narrows 'for every input' (looked for: loops, veiled, ifaces, maps, wideKeys, modest, calm, conditions, laid).
  DERIVED. THE GIVEN ROWS OF THIS SEAT. 32 by the template 'for every input the law returns true; each argument reads behind the call as it read before'; 0 by the template 'total and deterministic' (their statements: YtfigilkggjokkaaTotals.lean).
  GIVEN WITH THE SEED: the statements are not yours to turn. If you find one false, say at which input.
  Laid BY PROGRAM, IN A SANDBOX (cutbox-rows.mjs): the forced cells as the released guide's own fill.sh prints them over the translation c7c3db6458fa7cd2… (all of the seat's roots in one cut). By AI agents, Wed Nov 11 2026. No macro, syntax, notation, axiom, sorry.
-/
import Derived.Test.YtfigilkggjokkaaChecked
import GoSem.Claim
import GoSem.ClaimJoined
import GoSem.ClaimMapViews
import Derived.JoinedTies
import Derived.KernelRfl
namespace Go.Proofs.Ytfigilkggjokkaa
/- THE CELL 'sum', in the pinned program and in every row, IS THE sha256 OF THE DUMP (.gsa) THAT YtfigilkggjokkaaProg.lean LOADS. Nothing in Lean hashes anything: it is a label: what it is worth is what the hold of that sum in a sandbox is worth. -/
noncomputable def Try.pinned : Pinned := { name := "ytfigilkggjokkaa", sum := "c7c3db6458fa7cd23c944169f9d8a3e87f4b4e02f83ec458d527692f0dc55b11", checked := Try.checked }
namespace Rows
def none {H : Type} : Left H := { results := [], args := [] }

/-- 'laws.FnExactReverseWord': WHATEVER THE INPUT: true; the input reads as it did. -/
def fnExactReverseWordSpec : ChangeSpec := { name := "fnExactReverseWord", fn := fun _ => fun
  | [d] => { results := [.lit (.bool true)], args := [d] }
  | _ => none }
def fnExactReverseWordRow : OpenClaim := { program := "ytfigilkggjokkaa", sum := "c7c3db6458fa7cd23c944169f9d8a3e87f4b4e02f83ec458d527692f0dc55b11", func := "loop.example/g01922/laws.FnExactReverseWord", spec := "fnExactReverseWord", apart := false }
def FnExactReverseWordSaid : Prop := fnExactReverseWordRow.holds Try.pinned (OpenSpec.ofChange fnExactReverseWordSpec)

/-- ITS FALSE NEIGHBOUR: 'it returns false'. Refute it at one input. -/
def fnExactReverseWordWrong : ChangeSpec := { name := "fnExactReverseWord", fn := fun _ => fun
  | [d] => { results := [.lit (.bool false)], args := [d] }
  | _ => none }
def FnExactReverseWordWrongFalsely : Prop := fnExactReverseWordRow.holds Try.pinned (OpenSpec.ofChange fnExactReverseWordWrong)

/-- 'laws.FnExactCompareWords': WHATEVER THE INPUT: true; the input reads as it did. -/
def fnExactCompareWordsSpec : ChangeSpec := { name := "fnExactCompareWords", fn := fun _ => fun
  | [d1, d2] => { results := [.lit (.bool true)], args := [d1, d2] }
  | _ => none }
def fnExactCompareWordsRow : OpenClaim := { program := "ytfigilkggjokkaa", sum := "c7c3db6458fa7cd23c944169f9d8a3e87f4b4e02f83ec458d527692f0dc55b11", func := "loop.example/g01922/laws.FnExactCompareWords", spec := "fnExactCompareWords", apart := false }
def FnExactCompareWordsSaid : Prop := fnExactCompareWordsRow.holds Try.pinned (OpenSpec.ofChange fnExactCompareWordsSpec)

/-- ITS FALSE NEIGHBOUR: 'it returns false'. Refute it at one input. -/
def fnExactCompareWordsWrong : ChangeSpec := { name := "fnExactCompareWords", fn := fun _ => fun
  | [d1, d2] => { results := [.lit (.bool false)], args := [d1, d2] }
  | _ => none }
def FnExactCompareWordsWrongFalsely : Prop := fnExactCompareWordsRow.holds Try.pinned (OpenSpec.ofChange fnExactCompareWordsWrong)

/-- 'laws.FnExactEqualBatches': WHATEVER THE INPUT: true; the input reads as it did. -/
def fnExactEqualBatchesSpec : ChangeSpec := { name := "fnExactEqualBatches", fn := fun _ => fun
  | [d1, d2] => { results := [.lit (.bool true)], args := [d1, d2] }
  | _ => none }
def fnExactEqualBatchesRow : OpenClaim := { program := "ytfigilkggjokkaa", sum := "c7c3db6458fa7cd23c944169f9d8a3e87f4b4e02f83ec458d527692f0dc55b11", func := "loop.example/g01922/laws.FnExactEqualBatches", spec := "fnExactEqualBatches", apart := false }
def FnExactEqualBatchesSaid : Prop := fnExactEqualBatchesRow.holds Try.pinned (OpenSpec.ofChange fnExactEqualBatchesSpec)

/-- ITS FALSE NEIGHBOUR: 'it returns false'. Refute it at one input. -/
def fnExactEqualBatchesWrong : ChangeSpec := { name := "fnExactEqualBatches", fn := fun _ => fun
  | [d1, d2] => { results := [.lit (.bool false)], args := [d1, d2] }
  | _ => none }
def FnExactEqualBatchesWrongFalsely : Prop := fnExactEqualBatchesRow.holds Try.pinned (OpenSpec.ofChange fnExactEqualBatchesWrong)

/-- 'laws.FnExactEdgeIndex': WHATEVER THE INPUT: true; the input reads as it did. -/
def fnExactEdgeIndexSpec : ChangeSpec := { name := "fnExactEdgeIndex", fn := fun _ => fun
  | [d1, d2] => { results := [.lit (.bool true)], args := [d1, d2] }
  | _ => none }
def fnExactEdgeIndexRow : OpenClaim := { program := "ytfigilkggjokkaa", sum := "c7c3db6458fa7cd23c944169f9d8a3e87f4b4e02f83ec458d527692f0dc55b11", func := "loop.example/g01922/laws.FnExactEdgeIndex", spec := "fnExactEdgeIndex", unfollowed := true, recurses := true, apart := false }
def FnExactEdgeIndexSaid : Prop := fnExactEdgeIndexRow.holds Try.pinned (OpenSpec.ofChange fnExactEdgeIndexSpec)

/-- ITS FALSE NEIGHBOUR: 'it returns false'. Refute it at one input. -/
def fnExactEdgeIndexWrong : ChangeSpec := { name := "fnExactEdgeIndex", fn := fun _ => fun
  | [d1, d2] => { results := [.lit (.bool false)], args := [d1, d2] }
  | _ => none }
def FnExactEdgeIndexWrongFalsely : Prop := fnExactEdgeIndexRow.holds Try.pinned (OpenSpec.ofChange fnExactEdgeIndexWrong)

/-- 'laws.FnExactIsValidGraph': WHATEVER THE INPUT: true; the input reads as it did. -/
def fnExactIsValidGraphSpec : ChangeSpec := { name := "fnExactIsValidGraph", fn := fun _ => fun
  | [d] => { results := [.lit (.bool true)], args := [d] }
  | _ => none }
def fnExactIsValidGraphRow : OpenClaim := { program := "ytfigilkggjokkaa", sum := "c7c3db6458fa7cd23c944169f9d8a3e87f4b4e02f83ec458d527692f0dc55b11", func := "loop.example/g01922/laws.FnExactIsValidGraph", spec := "fnExactIsValidGraph", apart := false }
def FnExactIsValidGraphSaid : Prop := fnExactIsValidGraphRow.holds Try.pinned (OpenSpec.ofChange fnExactIsValidGraphSpec)

/-- ITS FALSE NEIGHBOUR: 'it returns false'. Refute it at one input. -/
def fnExactIsValidGraphWrong : ChangeSpec := { name := "fnExactIsValidGraph", fn := fun _ => fun
  | [d] => { results := [.lit (.bool false)], args := [d] }
  | _ => none }
def FnExactIsValidGraphWrongFalsely : Prop := fnExactIsValidGraphRow.holds Try.pinned (OpenSpec.ofChange fnExactIsValidGraphWrong)

/-- 'laws.FnExactCompareWalks': WHATEVER THE INPUT: true; the input reads as it did. -/
def fnExactCompareWalksSpec : ChangeSpec := { name := "fnExactCompareWalks", fn := fun _ => fun
  | [d1, d2] => { results := [.lit (.bool true)], args := [d1, d2] }
  | _ => none }
def fnExactCompareWalksRow : OpenClaim := { program := "ytfigilkggjokkaa", sum := "c7c3db6458fa7cd23c944169f9d8a3e87f4b4e02f83ec458d527692f0dc55b11", func := "loop.example/g01922/laws.FnExactCompareWalks", spec := "fnExactCompareWalks", unfollowed := true, recurses := true, apart := false }
def FnExactCompareWalksSaid : Prop := fnExactCompareWalksRow.holds Try.pinned (OpenSpec.ofChange fnExactCompareWalksSpec)

/-- ITS FALSE NEIGHBOUR: 'it returns false'. Refute it at one input. -/
def fnExactCompareWalksWrong : ChangeSpec := { name := "fnExactCompareWalks", fn := fun _ => fun
  | [d1, d2] => { results := [.lit (.bool false)], args := [d1, d2] }
  | _ => none }
def FnExactCompareWalksWrongFalsely : Prop := fnExactCompareWalksRow.holds Try.pinned (OpenSpec.ofChange fnExactCompareWalksWrong)

/-- 'laws.FnExactEqualGraphs': WHATEVER THE INPUT: true; the input reads as it did. -/
def fnExactEqualGraphsSpec : ChangeSpec := { name := "fnExactEqualGraphs", fn := fun _ => fun
  | [d1, d2] => { results := [.lit (.bool true)], args := [d1, d2] }
  | _ => none }
def fnExactEqualGraphsRow : OpenClaim := { program := "ytfigilkggjokkaa", sum := "c7c3db6458fa7cd23c944169f9d8a3e87f4b4e02f83ec458d527692f0dc55b11", func := "loop.example/g01922/laws.FnExactEqualGraphs", spec := "fnExactEqualGraphs", apart := false }
def FnExactEqualGraphsSaid : Prop := fnExactEqualGraphsRow.holds Try.pinned (OpenSpec.ofChange fnExactEqualGraphsSpec)

/-- ITS FALSE NEIGHBOUR: 'it returns false'. Refute it at one input. -/
def fnExactEqualGraphsWrong : ChangeSpec := { name := "fnExactEqualGraphs", fn := fun _ => fun
  | [d1, d2] => { results := [.lit (.bool false)], args := [d1, d2] }
  | _ => none }
def FnExactEqualGraphsWrongFalsely : Prop := fnExactEqualGraphsRow.holds Try.pinned (OpenSpec.ofChange fnExactEqualGraphsWrong)

/-- 'laws.FnExactHoldsAt': WHATEVER THE INPUT: true; the input reads as it did. -/
def fnExactHoldsAtSpec : ChangeSpec := { name := "fnExactHoldsAt", fn := fun _ => fun
  | [d1, d2, d3] => { results := [.lit (.bool true)], args := [d1, d2, d3] }
  | _ => none }
def fnExactHoldsAtRow : OpenClaim := { program := "ytfigilkggjokkaa", sum := "c7c3db6458fa7cd23c944169f9d8a3e87f4b4e02f83ec458d527692f0dc55b11", func := "loop.example/g01922/laws.FnExactHoldsAt", spec := "fnExactHoldsAt", apart := false }
def FnExactHoldsAtSaid : Prop := fnExactHoldsAtRow.holds Try.pinned (OpenSpec.ofChange fnExactHoldsAtSpec)

/-- ITS FALSE NEIGHBOUR: 'it returns false'. Refute it at one input. -/
def fnExactHoldsAtWrong : ChangeSpec := { name := "fnExactHoldsAt", fn := fun _ => fun
  | [d1, d2, d3] => { results := [.lit (.bool false)], args := [d1, d2, d3] }
  | _ => none }
def FnExactHoldsAtWrongFalsely : Prop := fnExactHoldsAtRow.holds Try.pinned (OpenSpec.ofChange fnExactHoldsAtWrong)

/-- 'laws.FnExactInvertBatch': WHATEVER THE INPUT: true; the input reads as it did. -/
def fnExactInvertBatchSpec : ChangeSpec := { name := "fnExactInvertBatch", fn := fun _ => fun
  | [d] => { results := [.lit (.bool true)], args := [d] }
  | _ => none }
def fnExactInvertBatchRow : OpenClaim := { program := "ytfigilkggjokkaa", sum := "c7c3db6458fa7cd23c944169f9d8a3e87f4b4e02f83ec458d527692f0dc55b11", func := "loop.example/g01922/laws.FnExactInvertBatch", spec := "fnExactInvertBatch", apart := false }
def FnExactInvertBatchSaid : Prop := fnExactInvertBatchRow.holds Try.pinned (OpenSpec.ofChange fnExactInvertBatchSpec)

/-- ITS FALSE NEIGHBOUR: 'it returns false'. Refute it at one input. -/
def fnExactInvertBatchWrong : ChangeSpec := { name := "fnExactInvertBatch", fn := fun _ => fun
  | [d] => { results := [.lit (.bool false)], args := [d] }
  | _ => none }
def FnExactInvertBatchWrongFalsely : Prop := fnExactInvertBatchRow.holds Try.pinned (OpenSpec.ofChange fnExactInvertBatchWrong)

/-- 'laws.FnExactReverseGraph': WHATEVER THE INPUT: true; the input reads as it did. -/
def fnExactReverseGraphSpec : ChangeSpec := { name := "fnExactReverseGraph", fn := fun _ => fun
  | [d] => { results := [.lit (.bool true)], args := [d] }
  | _ => none }
def fnExactReverseGraphRow : OpenClaim := { program := "ytfigilkggjokkaa", sum := "c7c3db6458fa7cd23c944169f9d8a3e87f4b4e02f83ec458d527692f0dc55b11", func := "loop.example/g01922/laws.FnExactReverseGraph", spec := "fnExactReverseGraph", apart := false }
def FnExactReverseGraphSaid : Prop := fnExactReverseGraphRow.holds Try.pinned (OpenSpec.ofChange fnExactReverseGraphSpec)

/-- ITS FALSE NEIGHBOUR: 'it returns false'. Refute it at one input. -/
def fnExactReverseGraphWrong : ChangeSpec := { name := "fnExactReverseGraph", fn := fun _ => fun
  | [d] => { results := [.lit (.bool false)], args := [d] }
  | _ => none }
def FnExactReverseGraphWrongFalsely : Prop := fnExactReverseGraphRow.holds Try.pinned (OpenSpec.ofChange fnExactReverseGraphWrong)

/-- 'laws.FnExactStepFrom': WHATEVER THE INPUT: true; the input reads as it did. -/
def fnExactStepFromSpec : ChangeSpec := { name := "fnExactStepFrom", fn := fun _ => fun
  | [d1, d2] => { results := [.lit (.bool true)], args := [d1, d2] }
  | _ => none }
def fnExactStepFromRow : OpenClaim := { program := "ytfigilkggjokkaa", sum := "c7c3db6458fa7cd23c944169f9d8a3e87f4b4e02f83ec458d527692f0dc55b11", func := "loop.example/g01922/laws.FnExactStepFrom", spec := "fnExactStepFrom", unfollowed := true, recurses := true, apart := false }
def FnExactStepFromSaid : Prop := fnExactStepFromRow.holds Try.pinned (OpenSpec.ofChange fnExactStepFromSpec)

/-- ITS FALSE NEIGHBOUR: 'it returns false'. Refute it at one input. -/
def fnExactStepFromWrong : ChangeSpec := { name := "fnExactStepFrom", fn := fun _ => fun
  | [d1, d2] => { results := [.lit (.bool false)], args := [d1, d2] }
  | _ => none }
def FnExactStepFromWrongFalsely : Prop := fnExactStepFromRow.holds Try.pinned (OpenSpec.ofChange fnExactStepFromWrong)

/-- 'laws.FnExactNetBatch': WHATEVER THE INPUT: true; the input reads as it did. -/
def fnExactNetBatchSpec : ChangeSpec := { name := "fnExactNetBatch", fn := fun _ => fun
  | [d] => { results := [.lit (.bool true)], args := [d] }
  | _ => none }
def fnExactNetBatchRow : OpenClaim := { program := "ytfigilkggjokkaa", sum := "c7c3db6458fa7cd23c944169f9d8a3e87f4b4e02f83ec458d527692f0dc55b11", func := "loop.example/g01922/laws.FnExactNetBatch", spec := "fnExactNetBatch", apart := false }
def FnExactNetBatchSaid : Prop := fnExactNetBatchRow.holds Try.pinned (OpenSpec.ofChange fnExactNetBatchSpec)

/-- ITS FALSE NEIGHBOUR: 'it returns false'. Refute it at one input. -/
def fnExactNetBatchWrong : ChangeSpec := { name := "fnExactNetBatch", fn := fun _ => fun
  | [d] => { results := [.lit (.bool false)], args := [d] }
  | _ => none }
def FnExactNetBatchWrongFalsely : Prop := fnExactNetBatchRow.holds Try.pinned (OpenSpec.ofChange fnExactNetBatchWrong)

/-- 'laws.FnExactStepLetter': WHATEVER THE INPUT: true; the input reads as it did. -/
def fnExactStepLetterSpec : ChangeSpec := { name := "fnExactStepLetter", fn := fun _ => fun
  | [d1, d2] => { results := [.lit (.bool true)], args := [d1, d2] }
  | _ => none }
def fnExactStepLetterRow : OpenClaim := { program := "ytfigilkggjokkaa", sum := "c7c3db6458fa7cd23c944169f9d8a3e87f4b4e02f83ec458d527692f0dc55b11", func := "loop.example/g01922/laws.FnExactStepLetter", spec := "fnExactStepLetter", unfollowed := true, recurses := true, apart := false }
def FnExactStepLetterSaid : Prop := fnExactStepLetterRow.holds Try.pinned (OpenSpec.ofChange fnExactStepLetterSpec)

/-- ITS FALSE NEIGHBOUR: 'it returns false'. Refute it at one input. -/
def fnExactStepLetterWrong : ChangeSpec := { name := "fnExactStepLetter", fn := fun _ => fun
  | [d1, d2] => { results := [.lit (.bool false)], args := [d1, d2] }
  | _ => none }
def FnExactStepLetterWrongFalsely : Prop := fnExactStepLetterRow.holds Try.pinned (OpenSpec.ofChange fnExactStepLetterWrong)

/-- 'laws.FnExactStepTo': WHATEVER THE INPUT: true; the input reads as it did. -/
def fnExactStepToSpec : ChangeSpec := { name := "fnExactStepTo", fn := fun _ => fun
  | [d1, d2] => { results := [.lit (.bool true)], args := [d1, d2] }
  | _ => none }
def fnExactStepToRow : OpenClaim := { program := "ytfigilkggjokkaa", sum := "c7c3db6458fa7cd23c944169f9d8a3e87f4b4e02f83ec458d527692f0dc55b11", func := "loop.example/g01922/laws.FnExactStepTo", spec := "fnExactStepTo", unfollowed := true, recurses := true, apart := false }
def FnExactStepToSaid : Prop := fnExactStepToRow.holds Try.pinned (OpenSpec.ofChange fnExactStepToSpec)

/-- ITS FALSE NEIGHBOUR: 'it returns false'. Refute it at one input. -/
def fnExactStepToWrong : ChangeSpec := { name := "fnExactStepTo", fn := fun _ => fun
  | [d1, d2] => { results := [.lit (.bool false)], args := [d1, d2] }
  | _ => none }
def FnExactStepToWrongFalsely : Prop := fnExactStepToRow.holds Try.pinned (OpenSpec.ofChange fnExactStepToWrong)

/-- 'laws.FnExactEqualHistories': WHATEVER THE INPUT: true; the input reads as it did. -/
def fnExactEqualHistoriesSpec : ChangeSpec := { name := "fnExactEqualHistories", fn := fun _ => fun
  | [d1, d2] => { results := [.lit (.bool true)], args := [d1, d2] }
  | _ => none }
def fnExactEqualHistoriesRow : OpenClaim := { program := "ytfigilkggjokkaa", sum := "c7c3db6458fa7cd23c944169f9d8a3e87f4b4e02f83ec458d527692f0dc55b11", func := "loop.example/g01922/laws.FnExactEqualHistories", spec := "fnExactEqualHistories", unfollowed := true, recurses := true, apart := false }
def FnExactEqualHistoriesSaid : Prop := fnExactEqualHistoriesRow.holds Try.pinned (OpenSpec.ofChange fnExactEqualHistoriesSpec)

/-- ITS FALSE NEIGHBOUR: 'it returns false'. Refute it at one input. -/
def fnExactEqualHistoriesWrong : ChangeSpec := { name := "fnExactEqualHistories", fn := fun _ => fun
  | [d1, d2] => { results := [.lit (.bool false)], args := [d1, d2] }
  | _ => none }
def FnExactEqualHistoriesWrongFalsely : Prop := fnExactEqualHistoriesRow.holds Try.pinned (OpenSpec.ofChange fnExactEqualHistoriesWrong)

/-- 'laws.FnExactSetValue': WHATEVER THE INPUT: true; the input reads as it did. -/
def fnExactSetValueSpec : ChangeSpec := { name := "fnExactSetValue", fn := fun _ => fun
  | [d1, d2, d3] => { results := [.lit (.bool true)], args := [d1, d2, d3] }
  | _ => none }
def fnExactSetValueRow : OpenClaim := { program := "ytfigilkggjokkaa", sum := "c7c3db6458fa7cd23c944169f9d8a3e87f4b4e02f83ec458d527692f0dc55b11", func := "loop.example/g01922/laws.FnExactSetValue", spec := "fnExactSetValue", apart := false }
def FnExactSetValueSaid : Prop := fnExactSetValueRow.holds Try.pinned (OpenSpec.ofChange fnExactSetValueSpec)

/-- ITS FALSE NEIGHBOUR: 'it returns false'. Refute it at one input. -/
def fnExactSetValueWrong : ChangeSpec := { name := "fnExactSetValue", fn := fun _ => fun
  | [d1, d2, d3] => { results := [.lit (.bool false)], args := [d1, d2, d3] }
  | _ => none }
def FnExactSetValueWrongFalsely : Prop := fnExactSetValueRow.holds Try.pinned (OpenSpec.ofChange fnExactSetValueWrong)

/-- 'laws.FnExactStepsFrom': WHATEVER THE INPUT: true; the input reads as it did. -/
def fnExactStepsFromSpec : ChangeSpec := { name := "fnExactStepsFrom", fn := fun _ => fun
  | [d1, d2] => { results := [.lit (.bool true)], args := [d1, d2] }
  | _ => none }
def fnExactStepsFromRow : OpenClaim := { program := "ytfigilkggjokkaa", sum := "c7c3db6458fa7cd23c944169f9d8a3e87f4b4e02f83ec458d527692f0dc55b11", func := "loop.example/g01922/laws.FnExactStepsFrom", spec := "fnExactStepsFrom", apart := false }
def FnExactStepsFromSaid : Prop := fnExactStepsFromRow.holds Try.pinned (OpenSpec.ofChange fnExactStepsFromSpec)

/-- ITS FALSE NEIGHBOUR: 'it returns false'. Refute it at one input. -/
def fnExactStepsFromWrong : ChangeSpec := { name := "fnExactStepsFrom", fn := fun _ => fun
  | [d1, d2] => { results := [.lit (.bool false)], args := [d1, d2] }
  | _ => none }
def FnExactStepsFromWrongFalsely : Prop := fnExactStepsFromRow.holds Try.pinned (OpenSpec.ofChange fnExactStepsFromWrong)

/-- 'laws.FnExactIsValidHistory': WHATEVER THE INPUT: true; the input reads as it did. -/
def fnExactIsValidHistorySpec : ChangeSpec := { name := "fnExactIsValidHistory", fn := fun _ => fun
  | [d] => { results := [.lit (.bool true)], args := [d] }
  | _ => none }
def fnExactIsValidHistoryRow : OpenClaim := { program := "ytfigilkggjokkaa", sum := "c7c3db6458fa7cd23c944169f9d8a3e87f4b4e02f83ec458d527692f0dc55b11", func := "loop.example/g01922/laws.FnExactIsValidHistory", spec := "fnExactIsValidHistory", apart := false }
def FnExactIsValidHistorySaid : Prop := fnExactIsValidHistoryRow.holds Try.pinned (OpenSpec.ofChange fnExactIsValidHistorySpec)

/-- ITS FALSE NEIGHBOUR: 'it returns false'. Refute it at one input. -/
def fnExactIsValidHistoryWrong : ChangeSpec := { name := "fnExactIsValidHistory", fn := fun _ => fun
  | [d] => { results := [.lit (.bool false)], args := [d] }
  | _ => none }
def FnExactIsValidHistoryWrongFalsely : Prop := fnExactIsValidHistoryRow.holds Try.pinned (OpenSpec.ofChange fnExactIsValidHistoryWrong)

/-- 'laws.FnExactDeleteEdge': WHATEVER THE INPUT: true; the input reads as it did. -/
def fnExactDeleteEdgeSpec : ChangeSpec := { name := "fnExactDeleteEdge", fn := fun _ => fun
  | [d1, d2] => { results := [.lit (.bool true)], args := [d1, d2] }
  | _ => none }
def fnExactDeleteEdgeRow : OpenClaim := { program := "ytfigilkggjokkaa", sum := "c7c3db6458fa7cd23c944169f9d8a3e87f4b4e02f83ec458d527692f0dc55b11", func := "loop.example/g01922/laws.FnExactDeleteEdge", spec := "fnExactDeleteEdge", unfollowed := true, recurses := true, apart := false }
def FnExactDeleteEdgeSaid : Prop := fnExactDeleteEdgeRow.holds Try.pinned (OpenSpec.ofChange fnExactDeleteEdgeSpec)

/-- ITS FALSE NEIGHBOUR: 'it returns false'. Refute it at one input. -/
def fnExactDeleteEdgeWrong : ChangeSpec := { name := "fnExactDeleteEdge", fn := fun _ => fun
  | [d1, d2] => { results := [.lit (.bool false)], args := [d1, d2] }
  | _ => none }
def FnExactDeleteEdgeWrongFalsely : Prop := fnExactDeleteEdgeRow.holds Try.pinned (OpenSpec.ofChange fnExactDeleteEdgeWrong)

/-- 'laws.FnExactIsValidWalk': WHATEVER THE INPUT: true; the input reads as it did. -/
def fnExactIsValidWalkSpec : ChangeSpec := { name := "fnExactIsValidWalk", fn := fun _ => fun
  | [d1, d2] => { results := [.lit (.bool true)], args := [d1, d2] }
  | _ => none }
def fnExactIsValidWalkRow : OpenClaim := { program := "ytfigilkggjokkaa", sum := "c7c3db6458fa7cd23c944169f9d8a3e87f4b4e02f83ec458d527692f0dc55b11", func := "loop.example/g01922/laws.FnExactIsValidWalk", spec := "fnExactIsValidWalk", unfollowed := true, recurses := true, apart := false }
def FnExactIsValidWalkSaid : Prop := fnExactIsValidWalkRow.holds Try.pinned (OpenSpec.ofChange fnExactIsValidWalkSpec)

/-- ITS FALSE NEIGHBOUR: 'it returns false'. Refute it at one input. -/
def fnExactIsValidWalkWrong : ChangeSpec := { name := "fnExactIsValidWalk", fn := fun _ => fun
  | [d1, d2] => { results := [.lit (.bool false)], args := [d1, d2] }
  | _ => none }
def FnExactIsValidWalkWrongFalsely : Prop := fnExactIsValidWalkRow.holds Try.pinned (OpenSpec.ofChange fnExactIsValidWalkWrong)

/-- 'laws.FnExactWalkEnd': WHATEVER THE INPUT: true; the input reads as it did. -/
def fnExactWalkEndSpec : ChangeSpec := { name := "fnExactWalkEnd", fn := fun _ => fun
  | [d1, d2] => { results := [.lit (.bool true)], args := [d1, d2] }
  | _ => none }
def fnExactWalkEndRow : OpenClaim := { program := "ytfigilkggjokkaa", sum := "c7c3db6458fa7cd23c944169f9d8a3e87f4b4e02f83ec458d527692f0dc55b11", func := "loop.example/g01922/laws.FnExactWalkEnd", spec := "fnExactWalkEnd", unfollowed := true, recurses := true, apart := false }
def FnExactWalkEndSaid : Prop := fnExactWalkEndRow.holds Try.pinned (OpenSpec.ofChange fnExactWalkEndSpec)

/-- ITS FALSE NEIGHBOUR: 'it returns false'. Refute it at one input. -/
def fnExactWalkEndWrong : ChangeSpec := { name := "fnExactWalkEnd", fn := fun _ => fun
  | [d1, d2] => { results := [.lit (.bool false)], args := [d1, d2] }
  | _ => none }
def FnExactWalkEndWrongFalsely : Prop := fnExactWalkEndRow.holds Try.pinned (OpenSpec.ofChange fnExactWalkEndWrong)

/-- 'laws.FnExactIsTrail': WHATEVER THE INPUT: true; the input reads as it did. -/
def fnExactIsTrailSpec : ChangeSpec := { name := "fnExactIsTrail", fn := fun _ => fun
  | [d1, d2] => { results := [.lit (.bool true)], args := [d1, d2] }
  | _ => none }
def fnExactIsTrailRow : OpenClaim := { program := "ytfigilkggjokkaa", sum := "c7c3db6458fa7cd23c944169f9d8a3e87f4b4e02f83ec458d527692f0dc55b11", func := "loop.example/g01922/laws.FnExactIsTrail", spec := "fnExactIsTrail", unfollowed := true, recurses := true, apart := false }
def FnExactIsTrailSaid : Prop := fnExactIsTrailRow.holds Try.pinned (OpenSpec.ofChange fnExactIsTrailSpec)

/-- ITS FALSE NEIGHBOUR: 'it returns false'. Refute it at one input. -/
def fnExactIsTrailWrong : ChangeSpec := { name := "fnExactIsTrail", fn := fun _ => fun
  | [d1, d2] => { results := [.lit (.bool false)], args := [d1, d2] }
  | _ => none }
def FnExactIsTrailWrongFalsely : Prop := fnExactIsTrailRow.holds Try.pinned (OpenSpec.ofChange fnExactIsTrailWrong)

/-- 'laws.FnExactStepsWith': WHATEVER THE INPUT: true; the input reads as it did. -/
def fnExactStepsWithSpec : ChangeSpec := { name := "fnExactStepsWith", fn := fun _ => fun
  | [d1, d2, d3] => { results := [.lit (.bool true)], args := [d1, d2, d3] }
  | _ => none }
def fnExactStepsWithRow : OpenClaim := { program := "ytfigilkggjokkaa", sum := "c7c3db6458fa7cd23c944169f9d8a3e87f4b4e02f83ec458d527692f0dc55b11", func := "loop.example/g01922/laws.FnExactStepsWith", spec := "fnExactStepsWith", unfollowed := true, recurses := true, apart := false }
def FnExactStepsWithSaid : Prop := fnExactStepsWithRow.holds Try.pinned (OpenSpec.ofChange fnExactStepsWithSpec)

/-- ITS FALSE NEIGHBOUR: 'it returns false'. Refute it at one input. -/
def fnExactStepsWithWrong : ChangeSpec := { name := "fnExactStepsWith", fn := fun _ => fun
  | [d1, d2, d3] => { results := [.lit (.bool false)], args := [d1, d2, d3] }
  | _ => none }
def FnExactStepsWithWrongFalsely : Prop := fnExactStepsWithRow.holds Try.pinned (OpenSpec.ofChange fnExactStepsWithWrong)

/-- 'laws.FnExactWalkNodes': WHATEVER THE INPUT: true; the input reads as it did. -/
def fnExactWalkNodesSpec : ChangeSpec := { name := "fnExactWalkNodes", fn := fun _ => fun
  | [d1, d2] => { results := [.lit (.bool true)], args := [d1, d2] }
  | _ => none }
def fnExactWalkNodesRow : OpenClaim := { program := "ytfigilkggjokkaa", sum := "c7c3db6458fa7cd23c944169f9d8a3e87f4b4e02f83ec458d527692f0dc55b11", func := "loop.example/g01922/laws.FnExactWalkNodes", spec := "fnExactWalkNodes", unfollowed := true, recurses := true, apart := false }
def FnExactWalkNodesSaid : Prop := fnExactWalkNodesRow.holds Try.pinned (OpenSpec.ofChange fnExactWalkNodesSpec)

/-- ITS FALSE NEIGHBOUR: 'it returns false'. Refute it at one input. -/
def fnExactWalkNodesWrong : ChangeSpec := { name := "fnExactWalkNodes", fn := fun _ => fun
  | [d1, d2] => { results := [.lit (.bool false)], args := [d1, d2] }
  | _ => none }
def FnExactWalkNodesWrongFalsely : Prop := fnExactWalkNodesRow.holds Try.pinned (OpenSpec.ofChange fnExactWalkNodesWrong)

/-- 'laws.FnExactBatchBetween': WHATEVER THE INPUT: true; the input reads as it did. -/
def fnExactBatchBetweenSpec : ChangeSpec := { name := "fnExactBatchBetween", fn := fun _ => fun
  | [d1, d2] => { results := [.lit (.bool true)], args := [d1, d2] }
  | _ => none }
def fnExactBatchBetweenRow : OpenClaim := { program := "ytfigilkggjokkaa", sum := "c7c3db6458fa7cd23c944169f9d8a3e87f4b4e02f83ec458d527692f0dc55b11", func := "loop.example/g01922/laws.FnExactBatchBetween", spec := "fnExactBatchBetween", apart := false }
def FnExactBatchBetweenSaid : Prop := fnExactBatchBetweenRow.holds Try.pinned (OpenSpec.ofChange fnExactBatchBetweenSpec)

/-- ITS FALSE NEIGHBOUR: 'it returns false'. Refute it at one input. -/
def fnExactBatchBetweenWrong : ChangeSpec := { name := "fnExactBatchBetween", fn := fun _ => fun
  | [d1, d2] => { results := [.lit (.bool false)], args := [d1, d2] }
  | _ => none }
def FnExactBatchBetweenWrongFalsely : Prop := fnExactBatchBetweenRow.holds Try.pinned (OpenSpec.ofChange fnExactBatchBetweenWrong)

/-- 'laws.FnExactReverseWalk': WHATEVER THE INPUT: true; the input reads as it did. -/
def fnExactReverseWalkSpec : ChangeSpec := { name := "fnExactReverseWalk", fn := fun _ => fun
  | [d1, d2] => { results := [.lit (.bool true)], args := [d1, d2] }
  | _ => none }
def fnExactReverseWalkRow : OpenClaim := { program := "ytfigilkggjokkaa", sum := "c7c3db6458fa7cd23c944169f9d8a3e87f4b4e02f83ec458d527692f0dc55b11", func := "loop.example/g01922/laws.FnExactReverseWalk", spec := "fnExactReverseWalk", unfollowed := true, recurses := true, apart := false }
def FnExactReverseWalkSaid : Prop := fnExactReverseWalkRow.holds Try.pinned (OpenSpec.ofChange fnExactReverseWalkSpec)

/-- ITS FALSE NEIGHBOUR: 'it returns false'. Refute it at one input. -/
def fnExactReverseWalkWrong : ChangeSpec := { name := "fnExactReverseWalk", fn := fun _ => fun
  | [d1, d2] => { results := [.lit (.bool false)], args := [d1, d2] }
  | _ => none }
def FnExactReverseWalkWrongFalsely : Prop := fnExactReverseWalkRow.holds Try.pinned (OpenSpec.ofChange fnExactReverseWalkWrong)

/-- 'laws.FnExactInsertEdge': WHATEVER THE INPUT: true; the input reads as it did. -/
def fnExactInsertEdgeSpec : ChangeSpec := { name := "fnExactInsertEdge", fn := fun _ => fun
  | [d1, d2] => { results := [.lit (.bool true)], args := [d1, d2] }
  | _ => none }
def fnExactInsertEdgeRow : OpenClaim := { program := "ytfigilkggjokkaa", sum := "c7c3db6458fa7cd23c944169f9d8a3e87f4b4e02f83ec458d527692f0dc55b11", func := "loop.example/g01922/laws.FnExactInsertEdge", spec := "fnExactInsertEdge", inPlace := ["slices.overlaps[loop.example/g01922/impl.Edge]"], unfollowed := true, recurses := true, apart := false }
def FnExactInsertEdgeSaid : Prop := fnExactInsertEdgeRow.holds Try.pinned (OpenSpec.ofChange fnExactInsertEdgeSpec)

/-- ITS FALSE NEIGHBOUR: 'it returns false'. Refute it at one input. -/
def fnExactInsertEdgeWrong : ChangeSpec := { name := "fnExactInsertEdge", fn := fun _ => fun
  | [d1, d2] => { results := [.lit (.bool false)], args := [d1, d2] }
  | _ => none }
def FnExactInsertEdgeWrongFalsely : Prop := fnExactInsertEdgeRow.holds Try.pinned (OpenSpec.ofChange fnExactInsertEdgeWrong)

/-- 'laws.FnExactWalkWord': WHATEVER THE INPUT: true; the input reads as it did. -/
def fnExactWalkWordSpec : ChangeSpec := { name := "fnExactWalkWord", fn := fun _ => fun
  | [d1, d2] => { results := [.lit (.bool true)], args := [d1, d2] }
  | _ => none }
def fnExactWalkWordRow : OpenClaim := { program := "ytfigilkggjokkaa", sum := "c7c3db6458fa7cd23c944169f9d8a3e87f4b4e02f83ec458d527692f0dc55b11", func := "loop.example/g01922/laws.FnExactWalkWord", spec := "fnExactWalkWord", unfollowed := true, recurses := true, apart := false }
def FnExactWalkWordSaid : Prop := fnExactWalkWordRow.holds Try.pinned (OpenSpec.ofChange fnExactWalkWordSpec)

/-- ITS FALSE NEIGHBOUR: 'it returns false'. Refute it at one input. -/
def fnExactWalkWordWrong : ChangeSpec := { name := "fnExactWalkWord", fn := fun _ => fun
  | [d1, d2] => { results := [.lit (.bool false)], args := [d1, d2] }
  | _ => none }
def FnExactWalkWordWrongFalsely : Prop := fnExactWalkWordRow.holds Try.pinned (OpenSpec.ofChange fnExactWalkWordWrong)

/-- 'laws.FnExactIsApplicable': WHATEVER THE INPUT: true; the input reads as it did. -/
def fnExactIsApplicableSpec : ChangeSpec := { name := "fnExactIsApplicable", fn := fun _ => fun
  | [d1, d2] => { results := [.lit (.bool true)], args := [d1, d2] }
  | _ => none }
def fnExactIsApplicableRow : OpenClaim := { program := "ytfigilkggjokkaa", sum := "c7c3db6458fa7cd23c944169f9d8a3e87f4b4e02f83ec458d527692f0dc55b11", func := "loop.example/g01922/laws.FnExactIsApplicable", spec := "fnExactIsApplicable", inPlace := ["slices.overlaps[loop.example/g01922/impl.Edge]"], unfollowed := true, recurses := true, apart := false }
def FnExactIsApplicableSaid : Prop := fnExactIsApplicableRow.holds Try.pinned (OpenSpec.ofChange fnExactIsApplicableSpec)

/-- ITS FALSE NEIGHBOUR: 'it returns false'. Refute it at one input. -/
def fnExactIsApplicableWrong : ChangeSpec := { name := "fnExactIsApplicable", fn := fun _ => fun
  | [d1, d2] => { results := [.lit (.bool false)], args := [d1, d2] }
  | _ => none }
def FnExactIsApplicableWrongFalsely : Prop := fnExactIsApplicableRow.holds Try.pinned (OpenSpec.ofChange fnExactIsApplicableWrong)

/-- 'laws.FnExactApplyBatch': WHATEVER THE INPUT: true; the input reads as it did. -/
def fnExactApplyBatchSpec : ChangeSpec := { name := "fnExactApplyBatch", fn := fun _ => fun
  | [d1, d2] => { results := [.lit (.bool true)], args := [d1, d2] }
  | _ => none }
def fnExactApplyBatchRow : OpenClaim := { program := "ytfigilkggjokkaa", sum := "c7c3db6458fa7cd23c944169f9d8a3e87f4b4e02f83ec458d527692f0dc55b11", func := "loop.example/g01922/laws.FnExactApplyBatch", spec := "fnExactApplyBatch", inPlace := ["slices.overlaps[loop.example/g01922/impl.Edge]"], unfollowed := true, recurses := true, apart := false }
def FnExactApplyBatchSaid : Prop := fnExactApplyBatchRow.holds Try.pinned (OpenSpec.ofChange fnExactApplyBatchSpec)

/-- ITS FALSE NEIGHBOUR: 'it returns false'. Refute it at one input. -/
def fnExactApplyBatchWrong : ChangeSpec := { name := "fnExactApplyBatch", fn := fun _ => fun
  | [d1, d2] => { results := [.lit (.bool false)], args := [d1, d2] }
  | _ => none }
def FnExactApplyBatchWrongFalsely : Prop := fnExactApplyBatchRow.holds Try.pinned (OpenSpec.ofChange fnExactApplyBatchWrong)

/-- 'laws.FnExactIsSimplePath': WHATEVER THE INPUT: true; the input reads as it did. -/
def fnExactIsSimplePathSpec : ChangeSpec := { name := "fnExactIsSimplePath", fn := fun _ => fun
  | [d1, d2] => { results := [.lit (.bool true)], args := [d1, d2] }
  | _ => none }
def fnExactIsSimplePathRow : OpenClaim := { program := "ytfigilkggjokkaa", sum := "c7c3db6458fa7cd23c944169f9d8a3e87f4b4e02f83ec458d527692f0dc55b11", func := "loop.example/g01922/laws.FnExactIsSimplePath", spec := "fnExactIsSimplePath", unfollowed := true, recurses := true, apart := false }
def FnExactIsSimplePathSaid : Prop := fnExactIsSimplePathRow.holds Try.pinned (OpenSpec.ofChange fnExactIsSimplePathSpec)

/-- ITS FALSE NEIGHBOUR: 'it returns false'. Refute it at one input. -/
def fnExactIsSimplePathWrong : ChangeSpec := { name := "fnExactIsSimplePath", fn := fun _ => fun
  | [d1, d2] => { results := [.lit (.bool false)], args := [d1, d2] }
  | _ => none }
def FnExactIsSimplePathWrongFalsely : Prop := fnExactIsSimplePathRow.holds Try.pinned (OpenSpec.ofChange fnExactIsSimplePathWrong)

/-- 'laws.FnExactNodesAfter': WHATEVER THE INPUT: true; the input reads as it did. -/
def fnExactNodesAfterSpec : ChangeSpec := { name := "fnExactNodesAfter", fn := fun _ => fun
  | [d1, d2, d3] => { results := [.lit (.bool true)], args := [d1, d2, d3] }
  | _ => none }
def fnExactNodesAfterRow : OpenClaim := { program := "ytfigilkggjokkaa", sum := "c7c3db6458fa7cd23c944169f9d8a3e87f4b4e02f83ec458d527692f0dc55b11", func := "loop.example/g01922/laws.FnExactNodesAfter", spec := "fnExactNodesAfter", unfollowed := true, recurses := true, apart := false }
def FnExactNodesAfterSaid : Prop := fnExactNodesAfterRow.holds Try.pinned (OpenSpec.ofChange fnExactNodesAfterSpec)

/-- ITS FALSE NEIGHBOUR: 'it returns false'. Refute it at one input. -/
def fnExactNodesAfterWrong : ChangeSpec := { name := "fnExactNodesAfter", fn := fun _ => fun
  | [d1, d2, d3] => { results := [.lit (.bool false)], args := [d1, d2, d3] }
  | _ => none }
def FnExactNodesAfterWrongFalsely : Prop := fnExactNodesAfterRow.holds Try.pinned (OpenSpec.ofChange fnExactNodesAfterWrong)

/- THE SECOND FORM. 'bulk': how many values and letters a reading holds, each counted each time it is reached (what is shared counts as often as it is met; a slice's spare places count too). A statement '..UptoSaid' is the law's where the arguments, and the package variables that the reading takes, are together of bulk at most 1048576: NARROWER than '..Said'. Prove '..Said' where nothing that the law and all that it calls make is longer than what came in: it says more and counts as full. Else prove '..UptoSaid'. A law counts once. -/
mutual
def uptoBulk {H : Type} : DataW H → Nat
  | .lit (.string bytes) => bytes.length + 1
  | .lit _ => 1
  | .nil => 1
  | .ptr d => uptoBulk d + 1
  | .slice elems spare => uptoBulkAll elems + uptoBulkAll spare + 1
  | .agg parts => uptoBulkAll parts + 1
  | .iface _ d => uptoBulk d + 1
  | .map entries => uptoBulkEntries entries + 1
  | .held _ => 1
def uptoBulkAll {H : Type} : List (DataW H) → Nat
  | [] => 0
  | d :: r => uptoBulk d + uptoBulkAll r
def uptoBulkEntries {H : Type} : List (Lit × DataW H) → Nat
  | [] => 0
  | x :: r => uptoBulkEntry x + uptoBulkEntries r
def uptoBulkEntry {H : Type} : Lit × DataW H → Nat
  | (.string bytes, d) => bytes.length + uptoBulk d + 1
  | (_, d) => uptoBulk d + 1
 end
def uptoSmall : (H : Type) → List (DataW H) → Bool := fun _ ds => decide (uptoBulkAll ds ≤ 1048576)
def OpenSpec.upto (s : _root_.Go.ChangeSpec) : _root_.Go.OpenSpec := { _root_.Go.OpenSpec.ofChange s with cond := some uptoSmall }

/-- 'laws.FnExactReverseWord', WHERE WHAT IT READS IS OF BULK AT MOST 1048576: true; the input reads as it did. -/
def fnExactReverseWordUptoRow : OpenClaim := { program := "ytfigilkggjokkaa", sum := "c7c3db6458fa7cd23c944169f9d8a3e87f4b4e02f83ec458d527692f0dc55b11", func := "loop.example/g01922/laws.FnExactReverseWord", spec := "fnExactReverseWord", apart := false, narrowed := true }
def FnExactReverseWordUptoSaid : Prop := fnExactReverseWordUptoRow.holds Try.pinned (OpenSpec.upto fnExactReverseWordSpec)

/-- 'laws.FnExactCompareWords', WHERE WHAT IT READS IS OF BULK AT MOST 1048576: true; the input reads as it did. -/
def fnExactCompareWordsUptoRow : OpenClaim := { program := "ytfigilkggjokkaa", sum := "c7c3db6458fa7cd23c944169f9d8a3e87f4b4e02f83ec458d527692f0dc55b11", func := "loop.example/g01922/laws.FnExactCompareWords", spec := "fnExactCompareWords", apart := false, narrowed := true }
def FnExactCompareWordsUptoSaid : Prop := fnExactCompareWordsUptoRow.holds Try.pinned (OpenSpec.upto fnExactCompareWordsSpec)

/-- 'laws.FnExactEqualBatches', WHERE WHAT IT READS IS OF BULK AT MOST 1048576: true; the input reads as it did. -/
def fnExactEqualBatchesUptoRow : OpenClaim := { program := "ytfigilkggjokkaa", sum := "c7c3db6458fa7cd23c944169f9d8a3e87f4b4e02f83ec458d527692f0dc55b11", func := "loop.example/g01922/laws.FnExactEqualBatches", spec := "fnExactEqualBatches", apart := false, narrowed := true }
def FnExactEqualBatchesUptoSaid : Prop := fnExactEqualBatchesUptoRow.holds Try.pinned (OpenSpec.upto fnExactEqualBatchesSpec)

/-- 'laws.FnExactEdgeIndex', WHERE WHAT IT READS IS OF BULK AT MOST 1048576: true; the input reads as it did. -/
def fnExactEdgeIndexUptoRow : OpenClaim := { program := "ytfigilkggjokkaa", sum := "c7c3db6458fa7cd23c944169f9d8a3e87f4b4e02f83ec458d527692f0dc55b11", func := "loop.example/g01922/laws.FnExactEdgeIndex", spec := "fnExactEdgeIndex", unfollowed := true, recurses := true, apart := false, narrowed := true }
def FnExactEdgeIndexUptoSaid : Prop := fnExactEdgeIndexUptoRow.holds Try.pinned (OpenSpec.upto fnExactEdgeIndexSpec)

/-- 'laws.FnExactIsValidGraph', WHERE WHAT IT READS IS OF BULK AT MOST 1048576: true; the input reads as it did. -/
def fnExactIsValidGraphUptoRow : OpenClaim := { program := "ytfigilkggjokkaa", sum := "c7c3db6458fa7cd23c944169f9d8a3e87f4b4e02f83ec458d527692f0dc55b11", func := "loop.example/g01922/laws.FnExactIsValidGraph", spec := "fnExactIsValidGraph", apart := false, narrowed := true }
def FnExactIsValidGraphUptoSaid : Prop := fnExactIsValidGraphUptoRow.holds Try.pinned (OpenSpec.upto fnExactIsValidGraphSpec)

/-- 'laws.FnExactCompareWalks', WHERE WHAT IT READS IS OF BULK AT MOST 1048576: true; the input reads as it did. -/
def fnExactCompareWalksUptoRow : OpenClaim := { program := "ytfigilkggjokkaa", sum := "c7c3db6458fa7cd23c944169f9d8a3e87f4b4e02f83ec458d527692f0dc55b11", func := "loop.example/g01922/laws.FnExactCompareWalks", spec := "fnExactCompareWalks", unfollowed := true, recurses := true, apart := false, narrowed := true }
def FnExactCompareWalksUptoSaid : Prop := fnExactCompareWalksUptoRow.holds Try.pinned (OpenSpec.upto fnExactCompareWalksSpec)

/-- 'laws.FnExactEqualGraphs', WHERE WHAT IT READS IS OF BULK AT MOST 1048576: true; the input reads as it did. -/
def fnExactEqualGraphsUptoRow : OpenClaim := { program := "ytfigilkggjokkaa", sum := "c7c3db6458fa7cd23c944169f9d8a3e87f4b4e02f83ec458d527692f0dc55b11", func := "loop.example/g01922/laws.FnExactEqualGraphs", spec := "fnExactEqualGraphs", apart := false, narrowed := true }
def FnExactEqualGraphsUptoSaid : Prop := fnExactEqualGraphsUptoRow.holds Try.pinned (OpenSpec.upto fnExactEqualGraphsSpec)

/-- 'laws.FnExactHoldsAt', WHERE WHAT IT READS IS OF BULK AT MOST 1048576: true; the input reads as it did. -/
def fnExactHoldsAtUptoRow : OpenClaim := { program := "ytfigilkggjokkaa", sum := "c7c3db6458fa7cd23c944169f9d8a3e87f4b4e02f83ec458d527692f0dc55b11", func := "loop.example/g01922/laws.FnExactHoldsAt", spec := "fnExactHoldsAt", apart := false, narrowed := true }
def FnExactHoldsAtUptoSaid : Prop := fnExactHoldsAtUptoRow.holds Try.pinned (OpenSpec.upto fnExactHoldsAtSpec)

/-- 'laws.FnExactInvertBatch', WHERE WHAT IT READS IS OF BULK AT MOST 1048576: true; the input reads as it did. -/
def fnExactInvertBatchUptoRow : OpenClaim := { program := "ytfigilkggjokkaa", sum := "c7c3db6458fa7cd23c944169f9d8a3e87f4b4e02f83ec458d527692f0dc55b11", func := "loop.example/g01922/laws.FnExactInvertBatch", spec := "fnExactInvertBatch", apart := false, narrowed := true }
def FnExactInvertBatchUptoSaid : Prop := fnExactInvertBatchUptoRow.holds Try.pinned (OpenSpec.upto fnExactInvertBatchSpec)

/-- 'laws.FnExactReverseGraph', WHERE WHAT IT READS IS OF BULK AT MOST 1048576: true; the input reads as it did. -/
def fnExactReverseGraphUptoRow : OpenClaim := { program := "ytfigilkggjokkaa", sum := "c7c3db6458fa7cd23c944169f9d8a3e87f4b4e02f83ec458d527692f0dc55b11", func := "loop.example/g01922/laws.FnExactReverseGraph", spec := "fnExactReverseGraph", apart := false, narrowed := true }
def FnExactReverseGraphUptoSaid : Prop := fnExactReverseGraphUptoRow.holds Try.pinned (OpenSpec.upto fnExactReverseGraphSpec)

/-- 'laws.FnExactStepFrom', WHERE WHAT IT READS IS OF BULK AT MOST 1048576: true; the input reads as it did. -/
def fnExactStepFromUptoRow : OpenClaim := { program := "ytfigilkggjokkaa", sum := "c7c3db6458fa7cd23c944169f9d8a3e87f4b4e02f83ec458d527692f0dc55b11", func := "loop.example/g01922/laws.FnExactStepFrom", spec := "fnExactStepFrom", unfollowed := true, recurses := true, apart := false, narrowed := true }
def FnExactStepFromUptoSaid : Prop := fnExactStepFromUptoRow.holds Try.pinned (OpenSpec.upto fnExactStepFromSpec)

/-- 'laws.FnExactNetBatch', WHERE WHAT IT READS IS OF BULK AT MOST 1048576: true; the input reads as it did. -/
def fnExactNetBatchUptoRow : OpenClaim := { program := "ytfigilkggjokkaa", sum := "c7c3db6458fa7cd23c944169f9d8a3e87f4b4e02f83ec458d527692f0dc55b11", func := "loop.example/g01922/laws.FnExactNetBatch", spec := "fnExactNetBatch", apart := false, narrowed := true }
def FnExactNetBatchUptoSaid : Prop := fnExactNetBatchUptoRow.holds Try.pinned (OpenSpec.upto fnExactNetBatchSpec)

/-- 'laws.FnExactStepLetter', WHERE WHAT IT READS IS OF BULK AT MOST 1048576: true; the input reads as it did. -/
def fnExactStepLetterUptoRow : OpenClaim := { program := "ytfigilkggjokkaa", sum := "c7c3db6458fa7cd23c944169f9d8a3e87f4b4e02f83ec458d527692f0dc55b11", func := "loop.example/g01922/laws.FnExactStepLetter", spec := "fnExactStepLetter", unfollowed := true, recurses := true, apart := false, narrowed := true }
def FnExactStepLetterUptoSaid : Prop := fnExactStepLetterUptoRow.holds Try.pinned (OpenSpec.upto fnExactStepLetterSpec)

/-- 'laws.FnExactStepTo', WHERE WHAT IT READS IS OF BULK AT MOST 1048576: true; the input reads as it did. -/
def fnExactStepToUptoRow : OpenClaim := { program := "ytfigilkggjokkaa", sum := "c7c3db6458fa7cd23c944169f9d8a3e87f4b4e02f83ec458d527692f0dc55b11", func := "loop.example/g01922/laws.FnExactStepTo", spec := "fnExactStepTo", unfollowed := true, recurses := true, apart := false, narrowed := true }
def FnExactStepToUptoSaid : Prop := fnExactStepToUptoRow.holds Try.pinned (OpenSpec.upto fnExactStepToSpec)

/-- 'laws.FnExactEqualHistories', WHERE WHAT IT READS IS OF BULK AT MOST 1048576: true; the input reads as it did. -/
def fnExactEqualHistoriesUptoRow : OpenClaim := { program := "ytfigilkggjokkaa", sum := "c7c3db6458fa7cd23c944169f9d8a3e87f4b4e02f83ec458d527692f0dc55b11", func := "loop.example/g01922/laws.FnExactEqualHistories", spec := "fnExactEqualHistories", unfollowed := true, recurses := true, apart := false, narrowed := true }
def FnExactEqualHistoriesUptoSaid : Prop := fnExactEqualHistoriesUptoRow.holds Try.pinned (OpenSpec.upto fnExactEqualHistoriesSpec)

/-- 'laws.FnExactSetValue', WHERE WHAT IT READS IS OF BULK AT MOST 1048576: true; the input reads as it did. -/
def fnExactSetValueUptoRow : OpenClaim := { program := "ytfigilkggjokkaa", sum := "c7c3db6458fa7cd23c944169f9d8a3e87f4b4e02f83ec458d527692f0dc55b11", func := "loop.example/g01922/laws.FnExactSetValue", spec := "fnExactSetValue", apart := false, narrowed := true }
def FnExactSetValueUptoSaid : Prop := fnExactSetValueUptoRow.holds Try.pinned (OpenSpec.upto fnExactSetValueSpec)

/-- 'laws.FnExactStepsFrom', WHERE WHAT IT READS IS OF BULK AT MOST 1048576: true; the input reads as it did. -/
def fnExactStepsFromUptoRow : OpenClaim := { program := "ytfigilkggjokkaa", sum := "c7c3db6458fa7cd23c944169f9d8a3e87f4b4e02f83ec458d527692f0dc55b11", func := "loop.example/g01922/laws.FnExactStepsFrom", spec := "fnExactStepsFrom", apart := false, narrowed := true }
def FnExactStepsFromUptoSaid : Prop := fnExactStepsFromUptoRow.holds Try.pinned (OpenSpec.upto fnExactStepsFromSpec)

/-- 'laws.FnExactIsValidHistory', WHERE WHAT IT READS IS OF BULK AT MOST 1048576: true; the input reads as it did. -/
def fnExactIsValidHistoryUptoRow : OpenClaim := { program := "ytfigilkggjokkaa", sum := "c7c3db6458fa7cd23c944169f9d8a3e87f4b4e02f83ec458d527692f0dc55b11", func := "loop.example/g01922/laws.FnExactIsValidHistory", spec := "fnExactIsValidHistory", apart := false, narrowed := true }
def FnExactIsValidHistoryUptoSaid : Prop := fnExactIsValidHistoryUptoRow.holds Try.pinned (OpenSpec.upto fnExactIsValidHistorySpec)

/-- 'laws.FnExactDeleteEdge', WHERE WHAT IT READS IS OF BULK AT MOST 1048576: true; the input reads as it did. -/
def fnExactDeleteEdgeUptoRow : OpenClaim := { program := "ytfigilkggjokkaa", sum := "c7c3db6458fa7cd23c944169f9d8a3e87f4b4e02f83ec458d527692f0dc55b11", func := "loop.example/g01922/laws.FnExactDeleteEdge", spec := "fnExactDeleteEdge", unfollowed := true, recurses := true, apart := false, narrowed := true }
def FnExactDeleteEdgeUptoSaid : Prop := fnExactDeleteEdgeUptoRow.holds Try.pinned (OpenSpec.upto fnExactDeleteEdgeSpec)

/-- 'laws.FnExactIsValidWalk', WHERE WHAT IT READS IS OF BULK AT MOST 1048576: true; the input reads as it did. -/
def fnExactIsValidWalkUptoRow : OpenClaim := { program := "ytfigilkggjokkaa", sum := "c7c3db6458fa7cd23c944169f9d8a3e87f4b4e02f83ec458d527692f0dc55b11", func := "loop.example/g01922/laws.FnExactIsValidWalk", spec := "fnExactIsValidWalk", unfollowed := true, recurses := true, apart := false, narrowed := true }
def FnExactIsValidWalkUptoSaid : Prop := fnExactIsValidWalkUptoRow.holds Try.pinned (OpenSpec.upto fnExactIsValidWalkSpec)

/-- 'laws.FnExactWalkEnd', WHERE WHAT IT READS IS OF BULK AT MOST 1048576: true; the input reads as it did. -/
def fnExactWalkEndUptoRow : OpenClaim := { program := "ytfigilkggjokkaa", sum := "c7c3db6458fa7cd23c944169f9d8a3e87f4b4e02f83ec458d527692f0dc55b11", func := "loop.example/g01922/laws.FnExactWalkEnd", spec := "fnExactWalkEnd", unfollowed := true, recurses := true, apart := false, narrowed := true }
def FnExactWalkEndUptoSaid : Prop := fnExactWalkEndUptoRow.holds Try.pinned (OpenSpec.upto fnExactWalkEndSpec)

/-- 'laws.FnExactIsTrail', WHERE WHAT IT READS IS OF BULK AT MOST 1048576: true; the input reads as it did. -/
def fnExactIsTrailUptoRow : OpenClaim := { program := "ytfigilkggjokkaa", sum := "c7c3db6458fa7cd23c944169f9d8a3e87f4b4e02f83ec458d527692f0dc55b11", func := "loop.example/g01922/laws.FnExactIsTrail", spec := "fnExactIsTrail", unfollowed := true, recurses := true, apart := false, narrowed := true }
def FnExactIsTrailUptoSaid : Prop := fnExactIsTrailUptoRow.holds Try.pinned (OpenSpec.upto fnExactIsTrailSpec)

/-- 'laws.FnExactStepsWith', WHERE WHAT IT READS IS OF BULK AT MOST 1048576: true; the input reads as it did. -/
def fnExactStepsWithUptoRow : OpenClaim := { program := "ytfigilkggjokkaa", sum := "c7c3db6458fa7cd23c944169f9d8a3e87f4b4e02f83ec458d527692f0dc55b11", func := "loop.example/g01922/laws.FnExactStepsWith", spec := "fnExactStepsWith", unfollowed := true, recurses := true, apart := false, narrowed := true }
def FnExactStepsWithUptoSaid : Prop := fnExactStepsWithUptoRow.holds Try.pinned (OpenSpec.upto fnExactStepsWithSpec)

/-- 'laws.FnExactWalkNodes', WHERE WHAT IT READS IS OF BULK AT MOST 1048576: true; the input reads as it did. -/
def fnExactWalkNodesUptoRow : OpenClaim := { program := "ytfigilkggjokkaa", sum := "c7c3db6458fa7cd23c944169f9d8a3e87f4b4e02f83ec458d527692f0dc55b11", func := "loop.example/g01922/laws.FnExactWalkNodes", spec := "fnExactWalkNodes", unfollowed := true, recurses := true, apart := false, narrowed := true }
def FnExactWalkNodesUptoSaid : Prop := fnExactWalkNodesUptoRow.holds Try.pinned (OpenSpec.upto fnExactWalkNodesSpec)

/-- 'laws.FnExactBatchBetween', WHERE WHAT IT READS IS OF BULK AT MOST 1048576: true; the input reads as it did. -/
def fnExactBatchBetweenUptoRow : OpenClaim := { program := "ytfigilkggjokkaa", sum := "c7c3db6458fa7cd23c944169f9d8a3e87f4b4e02f83ec458d527692f0dc55b11", func := "loop.example/g01922/laws.FnExactBatchBetween", spec := "fnExactBatchBetween", apart := false, narrowed := true }
def FnExactBatchBetweenUptoSaid : Prop := fnExactBatchBetweenUptoRow.holds Try.pinned (OpenSpec.upto fnExactBatchBetweenSpec)

/-- 'laws.FnExactReverseWalk', WHERE WHAT IT READS IS OF BULK AT MOST 1048576: true; the input reads as it did. -/
def fnExactReverseWalkUptoRow : OpenClaim := { program := "ytfigilkggjokkaa", sum := "c7c3db6458fa7cd23c944169f9d8a3e87f4b4e02f83ec458d527692f0dc55b11", func := "loop.example/g01922/laws.FnExactReverseWalk", spec := "fnExactReverseWalk", unfollowed := true, recurses := true, apart := false, narrowed := true }
def FnExactReverseWalkUptoSaid : Prop := fnExactReverseWalkUptoRow.holds Try.pinned (OpenSpec.upto fnExactReverseWalkSpec)

/-- 'laws.FnExactInsertEdge', WHERE WHAT IT READS IS OF BULK AT MOST 1048576: true; the input reads as it did. -/
def fnExactInsertEdgeUptoRow : OpenClaim := { program := "ytfigilkggjokkaa", sum := "c7c3db6458fa7cd23c944169f9d8a3e87f4b4e02f83ec458d527692f0dc55b11", func := "loop.example/g01922/laws.FnExactInsertEdge", spec := "fnExactInsertEdge", inPlace := ["slices.overlaps[loop.example/g01922/impl.Edge]"], unfollowed := true, recurses := true, apart := false, narrowed := true }
def FnExactInsertEdgeUptoSaid : Prop := fnExactInsertEdgeUptoRow.holds Try.pinned (OpenSpec.upto fnExactInsertEdgeSpec)

/-- 'laws.FnExactWalkWord', WHERE WHAT IT READS IS OF BULK AT MOST 1048576: true; the input reads as it did. -/
def fnExactWalkWordUptoRow : OpenClaim := { program := "ytfigilkggjokkaa", sum := "c7c3db6458fa7cd23c944169f9d8a3e87f4b4e02f83ec458d527692f0dc55b11", func := "loop.example/g01922/laws.FnExactWalkWord", spec := "fnExactWalkWord", unfollowed := true, recurses := true, apart := false, narrowed := true }
def FnExactWalkWordUptoSaid : Prop := fnExactWalkWordUptoRow.holds Try.pinned (OpenSpec.upto fnExactWalkWordSpec)

/-- 'laws.FnExactIsApplicable', WHERE WHAT IT READS IS OF BULK AT MOST 1048576: true; the input reads as it did. -/
def fnExactIsApplicableUptoRow : OpenClaim := { program := "ytfigilkggjokkaa", sum := "c7c3db6458fa7cd23c944169f9d8a3e87f4b4e02f83ec458d527692f0dc55b11", func := "loop.example/g01922/laws.FnExactIsApplicable", spec := "fnExactIsApplicable", inPlace := ["slices.overlaps[loop.example/g01922/impl.Edge]"], unfollowed := true, recurses := true, apart := false, narrowed := true }
def FnExactIsApplicableUptoSaid : Prop := fnExactIsApplicableUptoRow.holds Try.pinned (OpenSpec.upto fnExactIsApplicableSpec)

/-- 'laws.FnExactApplyBatch', WHERE WHAT IT READS IS OF BULK AT MOST 1048576: true; the input reads as it did. -/
def fnExactApplyBatchUptoRow : OpenClaim := { program := "ytfigilkggjokkaa", sum := "c7c3db6458fa7cd23c944169f9d8a3e87f4b4e02f83ec458d527692f0dc55b11", func := "loop.example/g01922/laws.FnExactApplyBatch", spec := "fnExactApplyBatch", inPlace := ["slices.overlaps[loop.example/g01922/impl.Edge]"], unfollowed := true, recurses := true, apart := false, narrowed := true }
def FnExactApplyBatchUptoSaid : Prop := fnExactApplyBatchUptoRow.holds Try.pinned (OpenSpec.upto fnExactApplyBatchSpec)

/-- 'laws.FnExactIsSimplePath', WHERE WHAT IT READS IS OF BULK AT MOST 1048576: true; the input reads as it did. -/
def fnExactIsSimplePathUptoRow : OpenClaim := { program := "ytfigilkggjokkaa", sum := "c7c3db6458fa7cd23c944169f9d8a3e87f4b4e02f83ec458d527692f0dc55b11", func := "loop.example/g01922/laws.FnExactIsSimplePath", spec := "fnExactIsSimplePath", unfollowed := true, recurses := true, apart := false, narrowed := true }
def FnExactIsSimplePathUptoSaid : Prop := fnExactIsSimplePathUptoRow.holds Try.pinned (OpenSpec.upto fnExactIsSimplePathSpec)

/-- 'laws.FnExactNodesAfter', WHERE WHAT IT READS IS OF BULK AT MOST 1048576: true; the input reads as it did. -/
def fnExactNodesAfterUptoRow : OpenClaim := { program := "ytfigilkggjokkaa", sum := "c7c3db6458fa7cd23c944169f9d8a3e87f4b4e02f83ec458d527692f0dc55b11", func := "loop.example/g01922/laws.FnExactNodesAfter", spec := "fnExactNodesAfter", unfollowed := true, recurses := true, apart := false, narrowed := true }
def FnExactNodesAfterUptoSaid : Prop := fnExactNodesAfterUptoRow.holds Try.pinned (OpenSpec.upto fnExactNodesAfterSpec)

end Rows
end Go.Proofs.Ytfigilkggjokkaa
