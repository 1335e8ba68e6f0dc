/-
  DERIVED. GIVEN WITH THE SEED: THE CARDS: each row of YtcofejbkbcdopaaGreatDoorRows.lean that lists a variable, with what it lists TIED to the program's text (the seventh form; the later family's looks); each row that meets fmt, with fmt's text TOLD by the authors' own Lean function (tested against real Go, not proved from fmt's source: count such statements apart). THE CARD IS WHAT COUNTS. Prove the row's statement (the work); the ties are given (YtcofejbkbcdopaaGreatDoorTie.lean); close each card by the builder's one call (the guide's Derived/Test/ToyasCard.lean, 'card_holds'). Laid BY PROGRAM, IN A SANDBOX (cutbox-door.mjs). By AI agents, Wed Nov 11 2026. No macro, syntax, notation, axiom, sorry.
-/
import Derived.Test.YtcofejbkbcdopaaGreatDoorRows
import GoSem.ClaimSeven
namespace Go.Proofs.YtcofejbkbcdopaaGreatDoor
namespace Rows

/-- THE TIED CARD OF 'cubbyholelaw52.ReportTexts'. -/
def reportTextsCard : Claim7 := { stood := { row := reportTextsRow, standIns := [], harness := (true, "5a17c011d93c183fbaa7ea848c67e0856b25a2192c8b81b50d6ffa9a43aac077"), looks := true }, kinds := [], alts := [], laidByText := true, laidKinds := [.data, .data, .data, .data, .sentinel, .sentinel, .data, .pinned], laidTests := true, laidLooks := .later }
def ReportTextsCardSaid : Prop := Claim7.holds Tryz.pinned (.plain (OpenSpec.ofChange reportTextsSpec)) reportTextsCard

/-- THE TIED CARD OF 'cubbyholelaw52.ReportHolds'. -/
def reportHoldsCard : Claim7 := { stood := { row := reportHoldsRow, standIns := [], harness := (true, "5a17c011d93c183fbaa7ea848c67e0856b25a2192c8b81b50d6ffa9a43aac077"), looks := true }, kinds := [], alts := [], laidByText := true, laidKinds := [.data, .data, .data, .data, .sentinel, .sentinel, .data, .pinned], laidTests := true, laidLooks := .later }
def ReportHoldsCardSaid : Prop := Claim7.holds Tryz.pinned (.plain (OpenSpec.ofChange reportHoldsSpec)) reportHoldsCard

/-- THE SECOND FORM's CARD OF 'cubbyholelaw52.ReportTexts'. -/
def reportTextsUptoCard : Claim7 := { stood := { row := reportTextsUptoRow, standIns := [], harness := (true, "5a17c011d93c183fbaa7ea848c67e0856b25a2192c8b81b50d6ffa9a43aac077"), looks := true }, kinds := [], alts := [], laidByText := true, laidKinds := [.data, .data, .data, .data, .sentinel, .sentinel, .data, .pinned], laidTests := true, laidLooks := .later }
def ReportTextsUptoCardSaid : Prop := Claim7.holds Tryz.pinned (.plain (OpenSpec.upto reportTextsSpec)) reportTextsUptoCard

/-- THE SECOND FORM's CARD OF 'cubbyholelaw52.ReportHolds'. -/
def reportHoldsUptoCard : Claim7 := { stood := { row := reportHoldsUptoRow, standIns := [], harness := (true, "5a17c011d93c183fbaa7ea848c67e0856b25a2192c8b81b50d6ffa9a43aac077"), looks := true }, kinds := [], alts := [], laidByText := true, laidKinds := [.data, .data, .data, .data, .sentinel, .sentinel, .data, .pinned], laidTests := true, laidLooks := .later }
def ReportHoldsUptoCardSaid : Prop := Claim7.holds Tryz.pinned (.plain (OpenSpec.upto reportHoldsSpec)) reportHoldsUptoCard
end Rows
end Go.Proofs.YtcofejbkbcdopaaGreatDoor
