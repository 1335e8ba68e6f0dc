/-
  DERIVED. GIVEN WITH THE SEED: THE CARDS: each row of YtboecabipkkcgaaDoorRows.lean that lists a variable, with what it lists TIED to the program's text (the seventh form; the later family's looks); each row that meets fmt, with fmt's text TOLD by the authors' own Lean function (tested against real Go, not proved from fmt's source: count such statements apart). THE CARD IS WHAT COUNTS. Prove the row's statement (the work); the ties are given (YtboecabipkkcgaaDoorTie.lean); close each card by the builder's one call (the guide's Derived/Test/ToyasCard.lean, 'card_holds'). Laid BY PROGRAM, IN A SANDBOX (cutbox-door.mjs). By AI agents, Wed Nov 11 2026. No macro, syntax, notation, axiom, sorry.
-/
import Derived.Test.YtboecabipkkcgaaDoorRows
import GoSem.ClaimSeven
namespace Go.Proofs.YtboecabipkkcgaaDoor
namespace Rows

/-- THE TIED CARD OF 'cubbyholelaw04.EntryCosts'. -/
def entryCostsCard : Claim7 := { stood := { row := entryCostsRow, standIns := [], harness := (true, "d59f2aaca96654c3548c0b379dc4c2d1284b67b7f895b3748dd90a59da143119"), looks := true }, kinds := [], alts := [], laidByText := true, laidKinds := [.data, .data, .data, .sentinel, .sentinel], laidTests := true, laidLooks := .later }
def EntryCostsCardSaid : Prop := Claim7.holds Tryd.pinned (.plain (OpenSpec.ofChange entryCostsSpec)) entryCostsCard

/-- THE TIED CARD OF 'cubbyholelaw04.EntryTexts'. -/
def entryTextsCard : Claim7 := { stood := { row := entryTextsRow, standIns := [], harness := (true, "d59f2aaca96654c3548c0b379dc4c2d1284b67b7f895b3748dd90a59da143119"), looks := true }, kinds := [], alts := [], laidByText := true, laidKinds := [.data, .data, .data, .sentinel, .sentinel], laidTests := true, laidLooks := .later }
def EntryTextsCardSaid : Prop := Claim7.holds Tryd.pinned (.plain (OpenSpec.ofChange entryTextsSpec)) entryTextsCard

/-- THE TIED CARD OF 'cubbyholelaw04.EntryParses'. -/
def entryParsesCard : Claim7 := { stood := { row := entryParsesRow, standIns := [], harness := (true, "d59f2aaca96654c3548c0b379dc4c2d1284b67b7f895b3748dd90a59da143119"), looks := true }, kinds := [], alts := [], laidByText := true, laidKinds := [.data, .data, .data, .sentinel, .sentinel], laidTests := true, laidLooks := .later }
def EntryParsesCardSaid : Prop := Claim7.holds Tryd.pinned (.plain (OpenSpec.ofChange entryParsesSpec)) entryParsesCard

/-- THE TIED CARD OF 'cubbyholelaw04.EntryMakes'. -/
def entryMakesCard : Claim7 := { stood := { row := entryMakesRow, standIns := [], harness := (true, "d59f2aaca96654c3548c0b379dc4c2d1284b67b7f895b3748dd90a59da143119"), looks := true }, kinds := [], alts := [], laidByText := true, laidKinds := [.data, .data, .data, .sentinel, .sentinel], laidTests := true, laidLooks := .later }
def EntryMakesCardSaid : Prop := Claim7.holds Tryd.pinned (.plain (OpenSpec.ofChange entryMakesSpec)) entryMakesCard

/-- THE TIED CARD OF 'cubbyholelaw04.EntryHolds'. -/
def entryHoldsCard : Claim7 := { stood := { row := entryHoldsRow, standIns := [], harness := (true, "d59f2aaca96654c3548c0b379dc4c2d1284b67b7f895b3748dd90a59da143119"), looks := true }, kinds := [], alts := [], laidByText := true, laidKinds := [.data, .data, .data, .sentinel, .sentinel], laidTests := true, laidLooks := .later }
def EntryHoldsCardSaid : Prop := Claim7.holds Tryd.pinned (.plain (OpenSpec.ofChange entryHoldsSpec)) entryHoldsCard

/-- THE TIED CARD OF 'cubbyholelaw04.EntryOrders'. -/
def entryOrdersCard : Claim7 := { stood := { row := entryOrdersRow, standIns := [], harness := (true, "d59f2aaca96654c3548c0b379dc4c2d1284b67b7f895b3748dd90a59da143119"), looks := true }, kinds := [], alts := [], laidByText := true, laidKinds := [.data, .data, .data, .sentinel, .sentinel], laidTests := true, laidLooks := .later }
def EntryOrdersCardSaid : Prop := Claim7.holds Tryd.pinned (.plain (OpenSpec.ofChange entryOrdersSpec)) entryOrdersCard

/-- THE SECOND FORM's CARD OF 'cubbyholelaw04.EntryCosts'. -/
def entryCostsUptoCard : Claim7 := { stood := { row := entryCostsUptoRow, standIns := [], harness := (true, "d59f2aaca96654c3548c0b379dc4c2d1284b67b7f895b3748dd90a59da143119"), looks := true }, kinds := [], alts := [], laidByText := true, laidKinds := [.data, .data, .data, .sentinel, .sentinel], laidTests := true, laidLooks := .later }
def EntryCostsUptoCardSaid : Prop := Claim7.holds Tryd.pinned (.plain (OpenSpec.upto entryCostsSpec)) entryCostsUptoCard

/-- THE SECOND FORM's CARD OF 'cubbyholelaw04.EntryTexts'. -/
def entryTextsUptoCard : Claim7 := { stood := { row := entryTextsUptoRow, standIns := [], harness := (true, "d59f2aaca96654c3548c0b379dc4c2d1284b67b7f895b3748dd90a59da143119"), looks := true }, kinds := [], alts := [], laidByText := true, laidKinds := [.data, .data, .data, .sentinel, .sentinel], laidTests := true, laidLooks := .later }
def EntryTextsUptoCardSaid : Prop := Claim7.holds Tryd.pinned (.plain (OpenSpec.upto entryTextsSpec)) entryTextsUptoCard

/-- THE SECOND FORM's CARD OF 'cubbyholelaw04.EntryParses'. -/
def entryParsesUptoCard : Claim7 := { stood := { row := entryParsesUptoRow, standIns := [], harness := (true, "d59f2aaca96654c3548c0b379dc4c2d1284b67b7f895b3748dd90a59da143119"), looks := true }, kinds := [], alts := [], laidByText := true, laidKinds := [.data, .data, .data, .sentinel, .sentinel], laidTests := true, laidLooks := .later }
def EntryParsesUptoCardSaid : Prop := Claim7.holds Tryd.pinned (.plain (OpenSpec.upto entryParsesSpec)) entryParsesUptoCard

/-- THE SECOND FORM's CARD OF 'cubbyholelaw04.EntryMakes'. -/
def entryMakesUptoCard : Claim7 := { stood := { row := entryMakesUptoRow, standIns := [], harness := (true, "d59f2aaca96654c3548c0b379dc4c2d1284b67b7f895b3748dd90a59da143119"), looks := true }, kinds := [], alts := [], laidByText := true, laidKinds := [.data, .data, .data, .sentinel, .sentinel], laidTests := true, laidLooks := .later }
def EntryMakesUptoCardSaid : Prop := Claim7.holds Tryd.pinned (.plain (OpenSpec.upto entryMakesSpec)) entryMakesUptoCard

/-- THE SECOND FORM's CARD OF 'cubbyholelaw04.EntryHolds'. -/
def entryHoldsUptoCard : Claim7 := { stood := { row := entryHoldsUptoRow, standIns := [], harness := (true, "d59f2aaca96654c3548c0b379dc4c2d1284b67b7f895b3748dd90a59da143119"), looks := true }, kinds := [], alts := [], laidByText := true, laidKinds := [.data, .data, .data, .sentinel, .sentinel], laidTests := true, laidLooks := .later }
def EntryHoldsUptoCardSaid : Prop := Claim7.holds Tryd.pinned (.plain (OpenSpec.upto entryHoldsSpec)) entryHoldsUptoCard

/-- THE SECOND FORM's CARD OF 'cubbyholelaw04.EntryOrders'. -/
def entryOrdersUptoCard : Claim7 := { stood := { row := entryOrdersUptoRow, standIns := [], harness := (true, "d59f2aaca96654c3548c0b379dc4c2d1284b67b7f895b3748dd90a59da143119"), looks := true }, kinds := [], alts := [], laidByText := true, laidKinds := [.data, .data, .data, .sentinel, .sentinel], laidTests := true, laidLooks := .later }
def EntryOrdersUptoCardSaid : Prop := Claim7.holds Tryd.pinned (.plain (OpenSpec.upto entryOrdersSpec)) entryOrdersUptoCard
end Rows
end Go.Proofs.YtboecabipkkcgaaDoor
