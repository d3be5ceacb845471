/-
  DERIVED. GIVEN WITH THE SEED: THE CARDS: each row of YtomkgnamjfiocaaGreatDoorRows.lean that lists a variable, with what it lists TIED to the program's text (the seventh form; the later family's looks); each row that meets fmt, with fmt's text TOLD by the authors' own Lean function (tested against real Go, not proved from fmt's source: count such statements apart). THE CARD IS WHAT COUNTS. Prove the row's statement (the work); the ties are given (YtomkgnamjfiocaaGreatDoorTie.lean); close each card by the builder's one call (the guide's Derived/Test/ToyasCard.lean, 'card_holds'). Laid BY PROGRAM, IN A SANDBOX (cutbox-door.mjs). By AI agents, Wed Nov 11 2026. No macro, syntax, notation, axiom, sorry.
-/
import Derived.Test.YtomkgnamjfiocaaGreatDoorRows
import GoSem.ClaimSeven
namespace Go.Proofs.YtomkgnamjfiocaaGreatDoor
namespace Rows

/-- THE TIED CARD OF 'laws.FnWalks'. -/
def fnWalksCard : Claim7 := { stood := { row := fnWalksRow, standIns := [], harness := (true, "3b04eb3c6e34dc5b2c252d1eef2985f4c42da3181a02fc96bc1ccbef9491accb"), looks := true }, kinds := [], alts := [], laidByText := true, laidKinds := [.data, .data, .data, .data, .sentinel, .sentinel, .pinned], laidTests := true, laidLooks := .later }
def FnWalksCardSaid : Prop := Claim7.holds Tryz.pinned (.plain (OpenSpec.ofChange fnWalksSpec)) fnWalksCard

/-- THE TIED CARD OF 'laws.FnBatches'. -/
def fnBatchesCard : Claim7 := { stood := { row := fnBatchesRow, standIns := [], harness := (true, "3b04eb3c6e34dc5b2c252d1eef2985f4c42da3181a02fc96bc1ccbef9491accb"), looks := true }, kinds := [], alts := [], laidByText := true, laidKinds := [.data, .data, .data, .data, .sentinel, .sentinel, .pinned], laidTests := true, laidLooks := .later }
def FnBatchesCardSaid : Prop := Claim7.holds Tryz.pinned (.plain (OpenSpec.ofChange fnBatchesSpec)) fnBatchesCard

/-- THE SECOND FORM's CARD OF 'laws.FnWalks'. -/
def fnWalksUptoCard : Claim7 := { stood := { row := fnWalksUptoRow, standIns := [], harness := (true, "3b04eb3c6e34dc5b2c252d1eef2985f4c42da3181a02fc96bc1ccbef9491accb"), looks := true }, kinds := [], alts := [], laidByText := true, laidKinds := [.data, .data, .data, .data, .sentinel, .sentinel, .pinned], laidTests := true, laidLooks := .later }
def FnWalksUptoCardSaid : Prop := Claim7.holds Tryz.pinned (.plain (OpenSpec.upto fnWalksSpec)) fnWalksUptoCard

/-- THE SECOND FORM's CARD OF 'laws.FnBatches'. -/
def fnBatchesUptoCard : Claim7 := { stood := { row := fnBatchesUptoRow, standIns := [], harness := (true, "3b04eb3c6e34dc5b2c252d1eef2985f4c42da3181a02fc96bc1ccbef9491accb"), looks := true }, kinds := [], alts := [], laidByText := true, laidKinds := [.data, .data, .data, .data, .sentinel, .sentinel, .pinned], laidTests := true, laidLooks := .later }
def FnBatchesUptoCardSaid : Prop := Claim7.holds Tryz.pinned (.plain (OpenSpec.upto fnBatchesSpec)) fnBatchesUptoCard
end Rows
end Go.Proofs.YtomkgnamjfiocaaGreatDoor
