/-
  DERIVED. GIVEN WITH THE SEED: THE CARDS: each row of YtcnbgpelfkbmpaaDoorRows.lean that lists a variable, with what it lists TIED to the program's text (the seventh form; the later family's looks); each row that meets fmt, with fmt's text TOLD by the authors' own Lean function (tested against real Go, not proved from fmt's source: count such statements apart). THE CARD IS WHAT COUNTS. Prove the row's statement (the work); the ties are given (YtcnbgpelfkbmpaaDoorTie.lean); close each card by the builder's one call (the guide's Derived/Test/ToyasCard.lean, 'card_holds'). Laid BY PROGRAM, IN A SANDBOX (cutbox-door.mjs). By AI agents, Wed Nov 11 2026. No macro, syntax, notation, axiom, sorry.
-/
import Derived.Test.YtcnbgpelfkbmpaaDoorRows
import GoSem.ClaimSeven
namespace Go.Proofs.YtcnbgpelfkbmpaaDoor
namespace Rows

/-- THE TIED CARD OF 'laws.FnExactParseWord'. -/
def fnExactParseWordCard : Claim7 := { stood := { row := fnExactParseWordRow, standIns := [], harness := (true, "3c2e9d8a63896e3956c0c46476cec5978a6e8ab746b22cded9dc3c0b905d5cc0"), looks := true }, kinds := [], alts := [], laidByText := true, laidKinds := [.data, .pinned], laidTests := true, laidLooks := .later }
def FnExactParseWordCardSaid : Prop := Claim7.holds Tryd.pinned (.plain (OpenSpec.ofChange fnExactParseWordSpec)) fnExactParseWordCard

/-- THE TIED CARD OF 'laws.FnExactFormatInt'. -/
def fnExactFormatIntCard : Claim7 := { stood := { row := fnExactFormatIntRow, standIns := [], harness := (true, "3c2e9d8a63896e3956c0c46476cec5978a6e8ab746b22cded9dc3c0b905d5cc0"), looks := true }, kinds := [], alts := [], laidByText := true, laidKinds := [.data, .data, .data], laidTests := true, laidLooks := .later }
def FnExactFormatIntCardSaid : Prop := Claim7.holds Tryd.pinned (.plain (OpenSpec.ofChange fnExactFormatIntSpec)) fnExactFormatIntCard

/-- THE TIED CARD OF 'laws.FnExactParseInt'. -/
def fnExactParseIntCard : Claim7 := { stood := { row := fnExactParseIntRow, standIns := [], harness := (true, "3c2e9d8a63896e3956c0c46476cec5978a6e8ab746b22cded9dc3c0b905d5cc0"), looks := true }, kinds := [], alts := [], laidByText := true, laidKinds := [.data, .data, .data, .sentinel, .sentinel], laidTests := true, laidLooks := .later }
def FnExactParseIntCardSaid : Prop := Claim7.holds Tryd.pinned (.plain (OpenSpec.ofChange fnExactParseIntSpec)) fnExactParseIntCard

/-- THE TIED CARD OF 'laws.FnExactFormatEdge'. -/
def fnExactFormatEdgeCard : Claim7 := { stood := { row := fnExactFormatEdgeRow, standIns := [], harness := (true, "3c2e9d8a63896e3956c0c46476cec5978a6e8ab746b22cded9dc3c0b905d5cc0"), looks := true }, kinds := [], alts := [], laidByText := true, laidKinds := [.data, .data, .data], laidTests := true, laidLooks := .later }
def FnExactFormatEdgeCardSaid : Prop := Claim7.holds Tryd.pinned (.plain (OpenSpec.ofChange fnExactFormatEdgeSpec)) fnExactFormatEdgeCard

/-- THE TIED CARD OF 'laws.FnExactFormatWalk'. -/
def fnExactFormatWalkCard : Claim7 := { stood := { row := fnExactFormatWalkRow, standIns := [], harness := (true, "3c2e9d8a63896e3956c0c46476cec5978a6e8ab746b22cded9dc3c0b905d5cc0"), looks := true }, kinds := [], alts := [], laidByText := true, laidKinds := [.data, .data, .data], laidTests := true, laidLooks := .later }
def FnExactFormatWalkCardSaid : Prop := Claim7.holds Tryd.pinned (.plain (OpenSpec.ofChange fnExactFormatWalkSpec)) fnExactFormatWalkCard

/-- THE TIED CARD OF 'laws.FnExactFormatGraph'. -/
def fnExactFormatGraphCard : Claim7 := { stood := { row := fnExactFormatGraphRow, standIns := [], harness := (true, "3c2e9d8a63896e3956c0c46476cec5978a6e8ab746b22cded9dc3c0b905d5cc0"), looks := true }, kinds := [], alts := [], laidByText := true, laidKinds := [.data, .data, .data], laidTests := true, laidLooks := .later }
def FnExactFormatGraphCardSaid : Prop := Claim7.holds Tryd.pinned (.plain (OpenSpec.ofChange fnExactFormatGraphSpec)) fnExactFormatGraphCard

/-- THE TIED CARD OF 'laws.FnExactFormatBatch'. -/
def fnExactFormatBatchCard : Claim7 := { stood := { row := fnExactFormatBatchRow, standIns := [], harness := (true, "3c2e9d8a63896e3956c0c46476cec5978a6e8ab746b22cded9dc3c0b905d5cc0"), looks := true }, kinds := [], alts := [], laidByText := true, laidKinds := [.data, .data, .data], laidTests := true, laidLooks := .later }
def FnExactFormatBatchCardSaid : Prop := Claim7.holds Tryd.pinned (.plain (OpenSpec.ofChange fnExactFormatBatchSpec)) fnExactFormatBatchCard

/-- THE TIED CARD OF 'laws.FnExactParseEdge'. -/
def fnExactParseEdgeCard : Claim7 := { stood := { row := fnExactParseEdgeRow, standIns := [], harness := (true, "3c2e9d8a63896e3956c0c46476cec5978a6e8ab746b22cded9dc3c0b905d5cc0"), looks := true }, kinds := [], alts := [], laidByText := true, laidKinds := [.data, .data, .data, .sentinel, .sentinel], laidTests := true, laidLooks := .later }
def FnExactParseEdgeCardSaid : Prop := Claim7.holds Tryd.pinned (.plain (OpenSpec.ofChange fnExactParseEdgeSpec)) fnExactParseEdgeCard

/-- THE TIED CARD OF 'laws.FnExactParseWalk'. -/
def fnExactParseWalkCard : Claim7 := { stood := { row := fnExactParseWalkRow, standIns := [], harness := (true, "3c2e9d8a63896e3956c0c46476cec5978a6e8ab746b22cded9dc3c0b905d5cc0"), looks := true }, kinds := [], alts := [], laidByText := true, laidKinds := [.data, .data, .data, .data, .sentinel, .sentinel, .pinned], laidTests := true, laidLooks := .later }
def FnExactParseWalkCardSaid : Prop := Claim7.holds Tryd.pinned (.plain (OpenSpec.ofChange fnExactParseWalkSpec)) fnExactParseWalkCard

/-- THE TIED CARD OF 'laws.FnExactParseGraph'. -/
def fnExactParseGraphCard : Claim7 := { stood := { row := fnExactParseGraphRow, standIns := [], harness := (true, "3c2e9d8a63896e3956c0c46476cec5978a6e8ab746b22cded9dc3c0b905d5cc0"), looks := true }, kinds := [], alts := [], laidByText := true, laidKinds := [.data, .data, .data, .data, .sentinel, .sentinel, .pinned], laidTests := true, laidLooks := .later }
def FnExactParseGraphCardSaid : Prop := Claim7.holds Tryd.pinned (.plain (OpenSpec.ofChange fnExactParseGraphSpec)) fnExactParseGraphCard

/-- THE TIED CARD OF 'laws.FnExactParseBatch'. -/
def fnExactParseBatchCard : Claim7 := { stood := { row := fnExactParseBatchRow, standIns := [], harness := (true, "3c2e9d8a63896e3956c0c46476cec5978a6e8ab746b22cded9dc3c0b905d5cc0"), looks := true }, kinds := [], alts := [], laidByText := true, laidKinds := [.data, .data, .data, .data, .sentinel, .sentinel, .pinned], laidTests := true, laidLooks := .later }
def FnExactParseBatchCardSaid : Prop := Claim7.holds Tryd.pinned (.plain (OpenSpec.ofChange fnExactParseBatchSpec)) fnExactParseBatchCard

/-- THE TIED CARD OF 'laws.FnLetters'. -/
def fnLettersCard : Claim7 := { stood := { row := fnLettersRow, standIns := [], harness := (true, "3c2e9d8a63896e3956c0c46476cec5978a6e8ab746b22cded9dc3c0b905d5cc0"), looks := true }, kinds := [], alts := [], laidByText := true, laidKinds := [.data, .pinned], laidTests := true, laidLooks := .later }
def FnLettersCardSaid : Prop := Claim7.holds Tryd.pinned (.plain (OpenSpec.ofChange fnLettersSpec)) fnLettersCard

/-- THE TIED CARD OF 'laws.FnIntegerEncodings'. -/
def fnIntegerEncodingsCard : Claim7 := { stood := { row := fnIntegerEncodingsRow, standIns := [], harness := (true, "3c2e9d8a63896e3956c0c46476cec5978a6e8ab746b22cded9dc3c0b905d5cc0"), looks := true }, kinds := [], alts := [], laidByText := true, laidKinds := [.data, .data, .data, .sentinel, .sentinel], laidTests := true, laidLooks := .later }
def FnIntegerEncodingsCardSaid : Prop := Claim7.holds Tryd.pinned (.plain (OpenSpec.ofChange fnIntegerEncodingsSpec)) fnIntegerEncodingsCard

/-- THE SECOND FORM's CARD OF 'laws.FnExactParseWord'. -/
def fnExactParseWordUptoCard : Claim7 := { stood := { row := fnExactParseWordUptoRow, standIns := [], harness := (true, "3c2e9d8a63896e3956c0c46476cec5978a6e8ab746b22cded9dc3c0b905d5cc0"), looks := true }, kinds := [], alts := [], laidByText := true, laidKinds := [.data, .pinned], laidTests := true, laidLooks := .later }
def FnExactParseWordUptoCardSaid : Prop := Claim7.holds Tryd.pinned (.plain (OpenSpec.upto fnExactParseWordSpec)) fnExactParseWordUptoCard

/-- THE SECOND FORM's CARD OF 'laws.FnExactFormatInt'. -/
def fnExactFormatIntUptoCard : Claim7 := { stood := { row := fnExactFormatIntUptoRow, standIns := [], harness := (true, "3c2e9d8a63896e3956c0c46476cec5978a6e8ab746b22cded9dc3c0b905d5cc0"), looks := true }, kinds := [], alts := [], laidByText := true, laidKinds := [.data, .data, .data], laidTests := true, laidLooks := .later }
def FnExactFormatIntUptoCardSaid : Prop := Claim7.holds Tryd.pinned (.plain (OpenSpec.upto fnExactFormatIntSpec)) fnExactFormatIntUptoCard

/-- THE SECOND FORM's CARD OF 'laws.FnExactParseInt'. -/
def fnExactParseIntUptoCard : Claim7 := { stood := { row := fnExactParseIntUptoRow, standIns := [], harness := (true, "3c2e9d8a63896e3956c0c46476cec5978a6e8ab746b22cded9dc3c0b905d5cc0"), looks := true }, kinds := [], alts := [], laidByText := true, laidKinds := [.data, .data, .data, .sentinel, .sentinel], laidTests := true, laidLooks := .later }
def FnExactParseIntUptoCardSaid : Prop := Claim7.holds Tryd.pinned (.plain (OpenSpec.upto fnExactParseIntSpec)) fnExactParseIntUptoCard

/-- THE SECOND FORM's CARD OF 'laws.FnExactFormatEdge'. -/
def fnExactFormatEdgeUptoCard : Claim7 := { stood := { row := fnExactFormatEdgeUptoRow, standIns := [], harness := (true, "3c2e9d8a63896e3956c0c46476cec5978a6e8ab746b22cded9dc3c0b905d5cc0"), looks := true }, kinds := [], alts := [], laidByText := true, laidKinds := [.data, .data, .data], laidTests := true, laidLooks := .later }
def FnExactFormatEdgeUptoCardSaid : Prop := Claim7.holds Tryd.pinned (.plain (OpenSpec.upto fnExactFormatEdgeSpec)) fnExactFormatEdgeUptoCard

/-- THE SECOND FORM's CARD OF 'laws.FnExactFormatWalk'. -/
def fnExactFormatWalkUptoCard : Claim7 := { stood := { row := fnExactFormatWalkUptoRow, standIns := [], harness := (true, "3c2e9d8a63896e3956c0c46476cec5978a6e8ab746b22cded9dc3c0b905d5cc0"), looks := true }, kinds := [], alts := [], laidByText := true, laidKinds := [.data, .data, .data], laidTests := true, laidLooks := .later }
def FnExactFormatWalkUptoCardSaid : Prop := Claim7.holds Tryd.pinned (.plain (OpenSpec.upto fnExactFormatWalkSpec)) fnExactFormatWalkUptoCard

/-- THE SECOND FORM's CARD OF 'laws.FnExactFormatGraph'. -/
def fnExactFormatGraphUptoCard : Claim7 := { stood := { row := fnExactFormatGraphUptoRow, standIns := [], harness := (true, "3c2e9d8a63896e3956c0c46476cec5978a6e8ab746b22cded9dc3c0b905d5cc0"), looks := true }, kinds := [], alts := [], laidByText := true, laidKinds := [.data, .data, .data], laidTests := true, laidLooks := .later }
def FnExactFormatGraphUptoCardSaid : Prop := Claim7.holds Tryd.pinned (.plain (OpenSpec.upto fnExactFormatGraphSpec)) fnExactFormatGraphUptoCard

/-- THE SECOND FORM's CARD OF 'laws.FnExactFormatBatch'. -/
def fnExactFormatBatchUptoCard : Claim7 := { stood := { row := fnExactFormatBatchUptoRow, standIns := [], harness := (true, "3c2e9d8a63896e3956c0c46476cec5978a6e8ab746b22cded9dc3c0b905d5cc0"), looks := true }, kinds := [], alts := [], laidByText := true, laidKinds := [.data, .data, .data], laidTests := true, laidLooks := .later }
def FnExactFormatBatchUptoCardSaid : Prop := Claim7.holds Tryd.pinned (.plain (OpenSpec.upto fnExactFormatBatchSpec)) fnExactFormatBatchUptoCard

/-- THE SECOND FORM's CARD OF 'laws.FnExactParseEdge'. -/
def fnExactParseEdgeUptoCard : Claim7 := { stood := { row := fnExactParseEdgeUptoRow, standIns := [], harness := (true, "3c2e9d8a63896e3956c0c46476cec5978a6e8ab746b22cded9dc3c0b905d5cc0"), looks := true }, kinds := [], alts := [], laidByText := true, laidKinds := [.data, .data, .data, .sentinel, .sentinel], laidTests := true, laidLooks := .later }
def FnExactParseEdgeUptoCardSaid : Prop := Claim7.holds Tryd.pinned (.plain (OpenSpec.upto fnExactParseEdgeSpec)) fnExactParseEdgeUptoCard

/-- THE SECOND FORM's CARD OF 'laws.FnExactParseWalk'. -/
def fnExactParseWalkUptoCard : Claim7 := { stood := { row := fnExactParseWalkUptoRow, standIns := [], harness := (true, "3c2e9d8a63896e3956c0c46476cec5978a6e8ab746b22cded9dc3c0b905d5cc0"), looks := true }, kinds := [], alts := [], laidByText := true, laidKinds := [.data, .data, .data, .data, .sentinel, .sentinel, .pinned], laidTests := true, laidLooks := .later }
def FnExactParseWalkUptoCardSaid : Prop := Claim7.holds Tryd.pinned (.plain (OpenSpec.upto fnExactParseWalkSpec)) fnExactParseWalkUptoCard

/-- THE SECOND FORM's CARD OF 'laws.FnExactParseGraph'. -/
def fnExactParseGraphUptoCard : Claim7 := { stood := { row := fnExactParseGraphUptoRow, standIns := [], harness := (true, "3c2e9d8a63896e3956c0c46476cec5978a6e8ab746b22cded9dc3c0b905d5cc0"), looks := true }, kinds := [], alts := [], laidByText := true, laidKinds := [.data, .data, .data, .data, .sentinel, .sentinel, .pinned], laidTests := true, laidLooks := .later }
def FnExactParseGraphUptoCardSaid : Prop := Claim7.holds Tryd.pinned (.plain (OpenSpec.upto fnExactParseGraphSpec)) fnExactParseGraphUptoCard

/-- THE SECOND FORM's CARD OF 'laws.FnExactParseBatch'. -/
def fnExactParseBatchUptoCard : Claim7 := { stood := { row := fnExactParseBatchUptoRow, standIns := [], harness := (true, "3c2e9d8a63896e3956c0c46476cec5978a6e8ab746b22cded9dc3c0b905d5cc0"), looks := true }, kinds := [], alts := [], laidByText := true, laidKinds := [.data, .data, .data, .data, .sentinel, .sentinel, .pinned], laidTests := true, laidLooks := .later }
def FnExactParseBatchUptoCardSaid : Prop := Claim7.holds Tryd.pinned (.plain (OpenSpec.upto fnExactParseBatchSpec)) fnExactParseBatchUptoCard

/-- THE SECOND FORM's CARD OF 'laws.FnLetters'. -/
def fnLettersUptoCard : Claim7 := { stood := { row := fnLettersUptoRow, standIns := [], harness := (true, "3c2e9d8a63896e3956c0c46476cec5978a6e8ab746b22cded9dc3c0b905d5cc0"), looks := true }, kinds := [], alts := [], laidByText := true, laidKinds := [.data, .pinned], laidTests := true, laidLooks := .later }
def FnLettersUptoCardSaid : Prop := Claim7.holds Tryd.pinned (.plain (OpenSpec.upto fnLettersSpec)) fnLettersUptoCard

/-- THE SECOND FORM's CARD OF 'laws.FnIntegerEncodings'. -/
def fnIntegerEncodingsUptoCard : Claim7 := { stood := { row := fnIntegerEncodingsUptoRow, standIns := [], harness := (true, "3c2e9d8a63896e3956c0c46476cec5978a6e8ab746b22cded9dc3c0b905d5cc0"), looks := true }, kinds := [], alts := [], laidByText := true, laidKinds := [.data, .data, .data, .sentinel, .sentinel], laidTests := true, laidLooks := .later }
def FnIntegerEncodingsUptoCardSaid : Prop := Claim7.holds Tryd.pinned (.plain (OpenSpec.upto fnIntegerEncodingsSpec)) fnIntegerEncodingsUptoCard
end Rows
end Go.Proofs.YtcnbgpelfkbmpaaDoor
