/-
  DERIVED. GIVEN WITH THE SEED: THE CARDS: each row of YtcofejbkbcdopaaDoorRows.lean that lists a variable, with what it lists TIED to the program's text (the seventh form; the later family's looks); each row that meets fmt, with fmt's text TOLD by the authors' own Lean function (tested against real Go, not proved from fmt's source: count such statements apart). THE CARD IS WHAT COUNTS. Prove the row's statement (the work); the ties are given (YtcofejbkbcdopaaDoorTie.lean); close each card by the builder's one call (the guide's Derived/Test/ToyasCard.lean, 'card_holds'). Laid BY PROGRAM, IN A SANDBOX (cutbox-door.mjs). By AI agents, Wed Nov 11 2026. No macro, syntax, notation, axiom, sorry.
-/
import Derived.Test.YtcofejbkbcdopaaDoorRows
import GoSem.ClaimSeven
namespace Go.Proofs.YtcofejbkbcdopaaDoor
namespace Rows

/-- THE TIED CARD OF 'cubbyholelaw52.ReportRatios'. -/
def reportRatiosCard : Claim7 := { stood := { row := reportRatiosRow, standIns := [], harness := (true, "8a85f3b462c7d6c6f654fc0c039ef5c88bedfaf79a22a87f39bafc35ed22482c"), looks := true }, kinds := [], alts := [], laidByText := true, laidKinds := [.data, .data, .data, .sentinel, .sentinel, .data], laidTests := true, laidLooks := .later }
def ReportRatiosCardSaid : Prop := Claim7.holds Tryd.pinned (.plain (OpenSpec.ofChange reportRatiosSpec)) reportRatiosCard

/-- THE TIED CARD OF 'cubbyholelaw52.ReportScores'. -/
def reportScoresCard : Claim7 := { stood := { row := reportScoresRow, standIns := [], harness := (true, "8a85f3b462c7d6c6f654fc0c039ef5c88bedfaf79a22a87f39bafc35ed22482c"), looks := true }, kinds := [], alts := [], laidByText := true, laidKinds := [.data, .data, .data, .sentinel, .sentinel, .data], laidTests := true, laidLooks := .later }
def ReportScoresCardSaid : Prop := Claim7.holds Tryd.pinned (.plain (OpenSpec.ofChange reportScoresSpec)) reportScoresCard

/-- THE TIED CARD OF 'cubbyholelaw52.ReportChecks'. -/
def reportChecksCard : Claim7 := { stood := { row := reportChecksRow, standIns := [], harness := (true, "8a85f3b462c7d6c6f654fc0c039ef5c88bedfaf79a22a87f39bafc35ed22482c"), looks := true }, kinds := [], alts := [], laidByText := true, laidKinds := [.data, .data, .data, .sentinel, .sentinel, .data], laidTests := true, laidLooks := .later }
def ReportChecksCardSaid : Prop := Claim7.holds Tryd.pinned (.plain (OpenSpec.ofChange reportChecksSpec)) reportChecksCard

/-- THE TIED CARD OF 'cubbyholelaw52.ReportCounts'. -/
def reportCountsCard : Claim7 := { stood := { row := reportCountsRow, standIns := [], harness := (true, "8a85f3b462c7d6c6f654fc0c039ef5c88bedfaf79a22a87f39bafc35ed22482c"), looks := true }, kinds := [], alts := [], laidByText := true, laidKinds := [.data, .data, .data, .sentinel, .sentinel, .data], laidTests := true, laidLooks := .later }
def ReportCountsCardSaid : Prop := Claim7.holds Tryd.pinned (.plain (OpenSpec.ofChange reportCountsSpec)) reportCountsCard

/-- THE SECOND FORM's CARD OF 'cubbyholelaw52.ReportRatios'. -/
def reportRatiosUptoCard : Claim7 := { stood := { row := reportRatiosUptoRow, standIns := [], harness := (true, "8a85f3b462c7d6c6f654fc0c039ef5c88bedfaf79a22a87f39bafc35ed22482c"), looks := true }, kinds := [], alts := [], laidByText := true, laidKinds := [.data, .data, .data, .sentinel, .sentinel, .data], laidTests := true, laidLooks := .later }
def ReportRatiosUptoCardSaid : Prop := Claim7.holds Tryd.pinned (.plain (OpenSpec.upto reportRatiosSpec)) reportRatiosUptoCard

/-- THE SECOND FORM's CARD OF 'cubbyholelaw52.ReportScores'. -/
def reportScoresUptoCard : Claim7 := { stood := { row := reportScoresUptoRow, standIns := [], harness := (true, "8a85f3b462c7d6c6f654fc0c039ef5c88bedfaf79a22a87f39bafc35ed22482c"), looks := true }, kinds := [], alts := [], laidByText := true, laidKinds := [.data, .data, .data, .sentinel, .sentinel, .data], laidTests := true, laidLooks := .later }
def ReportScoresUptoCardSaid : Prop := Claim7.holds Tryd.pinned (.plain (OpenSpec.upto reportScoresSpec)) reportScoresUptoCard

/-- THE SECOND FORM's CARD OF 'cubbyholelaw52.ReportChecks'. -/
def reportChecksUptoCard : Claim7 := { stood := { row := reportChecksUptoRow, standIns := [], harness := (true, "8a85f3b462c7d6c6f654fc0c039ef5c88bedfaf79a22a87f39bafc35ed22482c"), looks := true }, kinds := [], alts := [], laidByText := true, laidKinds := [.data, .data, .data, .sentinel, .sentinel, .data], laidTests := true, laidLooks := .later }
def ReportChecksUptoCardSaid : Prop := Claim7.holds Tryd.pinned (.plain (OpenSpec.upto reportChecksSpec)) reportChecksUptoCard

/-- THE SECOND FORM's CARD OF 'cubbyholelaw52.ReportCounts'. -/
def reportCountsUptoCard : Claim7 := { stood := { row := reportCountsUptoRow, standIns := [], harness := (true, "8a85f3b462c7d6c6f654fc0c039ef5c88bedfaf79a22a87f39bafc35ed22482c"), looks := true }, kinds := [], alts := [], laidByText := true, laidKinds := [.data, .data, .data, .sentinel, .sentinel, .data], laidTests := true, laidLooks := .later }
def ReportCountsUptoCardSaid : Prop := Claim7.holds Tryd.pinned (.plain (OpenSpec.upto reportCountsSpec)) reportCountsUptoCard
end Rows
end Go.Proofs.YtcofejbkbcdopaaDoor
