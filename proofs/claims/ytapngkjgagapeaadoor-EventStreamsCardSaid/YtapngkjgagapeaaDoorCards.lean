/-
  DERIVED. GIVEN WITH THE SEED: THE CARDS: each row of YtapngkjgagapeaaDoorRows.lean that lists a variable, with what it lists TIED to the program's text (the seventh form; the later family's looks); each row that meets fmt, with fmt's text TOLD by the authors' own Lean function (tested against real Go, not proved from fmt's source: count such statements apart). THE CARD IS WHAT COUNTS. Prove the row's statement (the work); the ties are given (YtapngkjgagapeaaDoorTie.lean); close each card by the builder's one call (the guide's Derived/Test/ToyasCard.lean, 'card_holds'). Laid BY PROGRAM, IN A SANDBOX (cutbox-door.mjs). By AI agents, Wed Nov 11 2026. No macro, syntax, notation, axiom, sorry.
-/
import Derived.Test.YtapngkjgagapeaaDoorRows
import GoSem.ClaimSeven
namespace Go.Proofs.YtapngkjgagapeaaDoor
namespace Rows

/-- THE TIED CARD OF 'cubbyholelaw22.EventParses'. -/
def eventParsesCard : Claim7 := { stood := { row := eventParsesRow, standIns := [], harness := (true, "15307a91086e9d198c88e4cd7a02fd8a9599af2631de391485039644f4e1cb72"), looks := true }, kinds := [], alts := [], laidByText := true, laidKinds := [.data, .data, .data, .sentinel, .sentinel, .data], laidTests := true, laidLooks := .later }
def EventParsesCardSaid : Prop := Claim7.holds Tryd.pinned (.plain (OpenSpec.ofChange eventParsesSpec)) eventParsesCard

/-- THE TIED CARD OF 'cubbyholelaw22.EventLongs'. -/
def eventLongsCard : Claim7 := { stood := { row := eventLongsRow, standIns := [], harness := (true, "15307a91086e9d198c88e4cd7a02fd8a9599af2631de391485039644f4e1cb72"), looks := true }, kinds := [], alts := [], laidByText := true, laidKinds := [.data, .data, .data, .sentinel, .sentinel, .data], laidTests := true, laidLooks := .later }
def EventLongsCardSaid : Prop := Claim7.holds Tryd.pinned (.plain (OpenSpec.ofChange eventLongsSpec)) eventLongsCard

/-- THE TIED CARD OF 'cubbyholelaw22.EventFull'. -/
def eventFullCard : Claim7 := { stood := { row := eventFullRow, standIns := [], harness := (true, "15307a91086e9d198c88e4cd7a02fd8a9599af2631de391485039644f4e1cb72"), looks := true }, kinds := [], alts := [], laidByText := true, laidKinds := [.data, .data, .data, .sentinel, .sentinel, .data], laidTests := true, laidLooks := .later }
def EventFullCardSaid : Prop := Claim7.holds Tryd.pinned (.plain (OpenSpec.ofChange eventFullSpec)) eventFullCard

/-- THE TIED CARD OF 'cubbyholelaw22.EventTexts'. -/
def eventTextsCard : Claim7 := { stood := { row := eventTextsRow, standIns := [], harness := (true, "15307a91086e9d198c88e4cd7a02fd8a9599af2631de391485039644f4e1cb72"), looks := true }, kinds := [], alts := [], laidByText := true, laidKinds := [.data, .data, .data, .sentinel, .sentinel, .data], laidTests := true, laidLooks := .later }
def EventTextsCardSaid : Prop := Claim7.holds Tryd.pinned (.plain (OpenSpec.ofChange eventTextsSpec)) eventTextsCard

/-- THE TIED CARD OF 'cubbyholelaw22.EventWrites'. -/
def eventWritesCard : Claim7 := { stood := { row := eventWritesRow, standIns := [], harness := (true, "15307a91086e9d198c88e4cd7a02fd8a9599af2631de391485039644f4e1cb72"), looks := true }, kinds := [], alts := [], laidByText := true, laidKinds := [.data, .data, .data, .sentinel, .sentinel, .data], laidTests := true, laidLooks := .later }
def EventWritesCardSaid : Prop := Claim7.holds Tryd.pinned (.plain (OpenSpec.ofChange eventWritesSpec)) eventWritesCard

/-- THE TIED CARD OF 'cubbyholelaw22.EventStreams'. -/
def eventStreamsCard : Claim7 := { stood := { row := eventStreamsRow, standIns := [], harness := (true, "15307a91086e9d198c88e4cd7a02fd8a9599af2631de391485039644f4e1cb72"), looks := true }, kinds := [], alts := [], laidByText := true, laidKinds := [.data, .data, .data, .sentinel, .sentinel, .data], laidTests := true, laidLooks := .later }
def EventStreamsCardSaid : Prop := Claim7.holds Tryd.pinned (.plain (OpenSpec.ofChange eventStreamsSpec)) eventStreamsCard

/-- THE TIED CARD OF 'cubbyholelaw22.EventNil'. -/
def eventNilCard : Claim7 := { stood := { row := eventNilRow, standIns := [], harness := (true, "15307a91086e9d198c88e4cd7a02fd8a9599af2631de391485039644f4e1cb72"), looks := true }, kinds := [], alts := [], laidByText := true, laidKinds := [.data, .data, .data, .sentinel, .sentinel, .data], laidTests := true, laidLooks := .later }
def EventNilCardSaid : Prop := Claim7.holds Tryd.pinned (.plain (OpenSpec.ofChange eventNilSpec)) eventNilCard

/-- THE TIED CARD OF 'cubbyholelaw22.EventHolds'. -/
def eventHoldsCard : Claim7 := { stood := { row := eventHoldsRow, standIns := [], harness := (true, "15307a91086e9d198c88e4cd7a02fd8a9599af2631de391485039644f4e1cb72"), looks := true }, kinds := [], alts := [], laidByText := true, laidKinds := [.data, .data, .data, .sentinel, .sentinel, .data], laidTests := true, laidLooks := .later }
def EventHoldsCardSaid : Prop := Claim7.holds Tryd.pinned (.plain (OpenSpec.ofChange eventHoldsSpec)) eventHoldsCard

/-- THE SECOND FORM's CARD OF 'cubbyholelaw22.EventParses'. -/
def eventParsesUptoCard : Claim7 := { stood := { row := eventParsesUptoRow, standIns := [], harness := (true, "15307a91086e9d198c88e4cd7a02fd8a9599af2631de391485039644f4e1cb72"), looks := true }, kinds := [], alts := [], laidByText := true, laidKinds := [.data, .data, .data, .sentinel, .sentinel, .data], laidTests := true, laidLooks := .later }
def EventParsesUptoCardSaid : Prop := Claim7.holds Tryd.pinned (.plain (OpenSpec.upto eventParsesSpec)) eventParsesUptoCard

/-- THE SECOND FORM's CARD OF 'cubbyholelaw22.EventLongs'. -/
def eventLongsUptoCard : Claim7 := { stood := { row := eventLongsUptoRow, standIns := [], harness := (true, "15307a91086e9d198c88e4cd7a02fd8a9599af2631de391485039644f4e1cb72"), looks := true }, kinds := [], alts := [], laidByText := true, laidKinds := [.data, .data, .data, .sentinel, .sentinel, .data], laidTests := true, laidLooks := .later }
def EventLongsUptoCardSaid : Prop := Claim7.holds Tryd.pinned (.plain (OpenSpec.upto eventLongsSpec)) eventLongsUptoCard

/-- THE SECOND FORM's CARD OF 'cubbyholelaw22.EventFull'. -/
def eventFullUptoCard : Claim7 := { stood := { row := eventFullUptoRow, standIns := [], harness := (true, "15307a91086e9d198c88e4cd7a02fd8a9599af2631de391485039644f4e1cb72"), looks := true }, kinds := [], alts := [], laidByText := true, laidKinds := [.data, .data, .data, .sentinel, .sentinel, .data], laidTests := true, laidLooks := .later }
def EventFullUptoCardSaid : Prop := Claim7.holds Tryd.pinned (.plain (OpenSpec.upto eventFullSpec)) eventFullUptoCard

/-- THE SECOND FORM's CARD OF 'cubbyholelaw22.EventTexts'. -/
def eventTextsUptoCard : Claim7 := { stood := { row := eventTextsUptoRow, standIns := [], harness := (true, "15307a91086e9d198c88e4cd7a02fd8a9599af2631de391485039644f4e1cb72"), looks := true }, kinds := [], alts := [], laidByText := true, laidKinds := [.data, .data, .data, .sentinel, .sentinel, .data], laidTests := true, laidLooks := .later }
def EventTextsUptoCardSaid : Prop := Claim7.holds Tryd.pinned (.plain (OpenSpec.upto eventTextsSpec)) eventTextsUptoCard

/-- THE SECOND FORM's CARD OF 'cubbyholelaw22.EventWrites'. -/
def eventWritesUptoCard : Claim7 := { stood := { row := eventWritesUptoRow, standIns := [], harness := (true, "15307a91086e9d198c88e4cd7a02fd8a9599af2631de391485039644f4e1cb72"), looks := true }, kinds := [], alts := [], laidByText := true, laidKinds := [.data, .data, .data, .sentinel, .sentinel, .data], laidTests := true, laidLooks := .later }
def EventWritesUptoCardSaid : Prop := Claim7.holds Tryd.pinned (.plain (OpenSpec.upto eventWritesSpec)) eventWritesUptoCard

/-- THE SECOND FORM's CARD OF 'cubbyholelaw22.EventStreams'. -/
def eventStreamsUptoCard : Claim7 := { stood := { row := eventStreamsUptoRow, standIns := [], harness := (true, "15307a91086e9d198c88e4cd7a02fd8a9599af2631de391485039644f4e1cb72"), looks := true }, kinds := [], alts := [], laidByText := true, laidKinds := [.data, .data, .data, .sentinel, .sentinel, .data], laidTests := true, laidLooks := .later }
def EventStreamsUptoCardSaid : Prop := Claim7.holds Tryd.pinned (.plain (OpenSpec.upto eventStreamsSpec)) eventStreamsUptoCard

/-- THE SECOND FORM's CARD OF 'cubbyholelaw22.EventNil'. -/
def eventNilUptoCard : Claim7 := { stood := { row := eventNilUptoRow, standIns := [], harness := (true, "15307a91086e9d198c88e4cd7a02fd8a9599af2631de391485039644f4e1cb72"), looks := true }, kinds := [], alts := [], laidByText := true, laidKinds := [.data, .data, .data, .sentinel, .sentinel, .data], laidTests := true, laidLooks := .later }
def EventNilUptoCardSaid : Prop := Claim7.holds Tryd.pinned (.plain (OpenSpec.upto eventNilSpec)) eventNilUptoCard

/-- THE SECOND FORM's CARD OF 'cubbyholelaw22.EventHolds'. -/
def eventHoldsUptoCard : Claim7 := { stood := { row := eventHoldsUptoRow, standIns := [], harness := (true, "15307a91086e9d198c88e4cd7a02fd8a9599af2631de391485039644f4e1cb72"), looks := true }, kinds := [], alts := [], laidByText := true, laidKinds := [.data, .data, .data, .sentinel, .sentinel, .data], laidTests := true, laidLooks := .later }
def EventHoldsUptoCardSaid : Prop := Claim7.holds Tryd.pinned (.plain (OpenSpec.upto eventHoldsSpec)) eventHoldsUptoCard
end Rows
end Go.Proofs.YtapngkjgagapeaaDoor
