/-
  DERIVED. GIVEN WITH THE SEED: THE CARDS: each row of YtkllfeoepbahlaaDoorRows.lean that lists a variable, with what it lists TIED to the program's text (the seventh form; the later family's looks); each row that meets fmt, with fmt's text TOLD by the authors' own Lean function (tested against real Go, not proved from fmt's source: count such statements apart). THE CARD IS WHAT COUNTS. Prove the row's statement (the work); the ties are given (YtkllfeoepbahlaaDoorTie.lean); close each card by the builder's one call (the guide's Derived/Test/ToyasCard.lean, 'card_holds'). Laid BY PROGRAM, IN A SANDBOX (cutbox-door.mjs). By AI agents, Wed Nov 11 2026. No macro, syntax, notation, axiom, sorry.
-/
import Derived.Test.YtkllfeoepbahlaaDoorRows
import GoSem.ClaimSeven
namespace Go.Proofs.YtkllfeoepbahlaaDoor
namespace Rows

/-- THE TIED CARD OF 'cubbyholelaw03.TickSums'. -/
def tickSumsCard : Claim7 := { stood := { row := tickSumsRow, standIns := [], harness := (true, "8a547f2b0dba8f0e739b1abeb8d44a1608c19fcab1154b74fbca59e56cd5d71c"), looks := true }, kinds := [], alts := [], laidByText := true, laidKinds := [.data, .data, .data, .sentinel, .sentinel], laidTests := true, laidLooks := .later }
def TickSumsCardSaid : Prop := Claim7.holds Tryd.pinned (.plain (OpenSpec.ofChange tickSumsSpec)) tickSumsCard

/-- THE TIED CARD OF 'cubbyholelaw03.TickDues'. -/
def tickDuesCard : Claim7 := { stood := { row := tickDuesRow, standIns := [], harness := (true, "8a547f2b0dba8f0e739b1abeb8d44a1608c19fcab1154b74fbca59e56cd5d71c"), looks := true }, kinds := [], alts := [], laidByText := true, laidKinds := [.data, .data, .data, .sentinel, .sentinel], laidTests := true, laidLooks := .later }
def TickDuesCardSaid : Prop := Claim7.holds Tryd.pinned (.plain (OpenSpec.ofChange tickDuesSpec)) tickDuesCard

/-- THE TIED CARD OF 'cubbyholelaw03.TickDigits'. -/
def tickDigitsCard : Claim7 := { stood := { row := tickDigitsRow, standIns := [], harness := (true, "8a547f2b0dba8f0e739b1abeb8d44a1608c19fcab1154b74fbca59e56cd5d71c"), looks := true }, kinds := [], alts := [], laidByText := true, laidKinds := [.data, .data, .data, .sentinel, .sentinel], laidTests := true, laidLooks := .later }
def TickDigitsCardSaid : Prop := Claim7.holds Tryd.pinned (.plain (OpenSpec.ofChange tickDigitsSpec)) tickDigitsCard

/-- THE TIED CARD OF 'cubbyholelaw03.TickTexts'. -/
def tickTextsCard : Claim7 := { stood := { row := tickTextsRow, standIns := [], harness := (true, "8a547f2b0dba8f0e739b1abeb8d44a1608c19fcab1154b74fbca59e56cd5d71c"), looks := true }, kinds := [], alts := [], laidByText := true, laidKinds := [.data, .data, .data, .sentinel, .sentinel], laidTests := true, laidLooks := .later }
def TickTextsCardSaid : Prop := Claim7.holds Tryd.pinned (.plain (OpenSpec.ofChange tickTextsSpec)) tickTextsCard

/-- THE TIED CARD OF 'cubbyholelaw03.TickHolds'. -/
def tickHoldsCard : Claim7 := { stood := { row := tickHoldsRow, standIns := [], harness := (true, "8a547f2b0dba8f0e739b1abeb8d44a1608c19fcab1154b74fbca59e56cd5d71c"), looks := true }, kinds := [], alts := [], laidByText := true, laidKinds := [.data, .data, .data, .sentinel, .sentinel], laidTests := true, laidLooks := .later }
def TickHoldsCardSaid : Prop := Claim7.holds Tryd.pinned (.plain (OpenSpec.ofChange tickHoldsSpec)) tickHoldsCard

/-- THE SECOND FORM's CARD OF 'cubbyholelaw03.TickSums'. -/
def tickSumsUptoCard : Claim7 := { stood := { row := tickSumsUptoRow, standIns := [], harness := (true, "8a547f2b0dba8f0e739b1abeb8d44a1608c19fcab1154b74fbca59e56cd5d71c"), looks := true }, kinds := [], alts := [], laidByText := true, laidKinds := [.data, .data, .data, .sentinel, .sentinel], laidTests := true, laidLooks := .later }
def TickSumsUptoCardSaid : Prop := Claim7.holds Tryd.pinned (.plain (OpenSpec.upto tickSumsSpec)) tickSumsUptoCard

/-- THE SECOND FORM's CARD OF 'cubbyholelaw03.TickDues'. -/
def tickDuesUptoCard : Claim7 := { stood := { row := tickDuesUptoRow, standIns := [], harness := (true, "8a547f2b0dba8f0e739b1abeb8d44a1608c19fcab1154b74fbca59e56cd5d71c"), looks := true }, kinds := [], alts := [], laidByText := true, laidKinds := [.data, .data, .data, .sentinel, .sentinel], laidTests := true, laidLooks := .later }
def TickDuesUptoCardSaid : Prop := Claim7.holds Tryd.pinned (.plain (OpenSpec.upto tickDuesSpec)) tickDuesUptoCard

/-- THE SECOND FORM's CARD OF 'cubbyholelaw03.TickDigits'. -/
def tickDigitsUptoCard : Claim7 := { stood := { row := tickDigitsUptoRow, standIns := [], harness := (true, "8a547f2b0dba8f0e739b1abeb8d44a1608c19fcab1154b74fbca59e56cd5d71c"), looks := true }, kinds := [], alts := [], laidByText := true, laidKinds := [.data, .data, .data, .sentinel, .sentinel], laidTests := true, laidLooks := .later }
def TickDigitsUptoCardSaid : Prop := Claim7.holds Tryd.pinned (.plain (OpenSpec.upto tickDigitsSpec)) tickDigitsUptoCard

/-- THE SECOND FORM's CARD OF 'cubbyholelaw03.TickTexts'. -/
def tickTextsUptoCard : Claim7 := { stood := { row := tickTextsUptoRow, standIns := [], harness := (true, "8a547f2b0dba8f0e739b1abeb8d44a1608c19fcab1154b74fbca59e56cd5d71c"), looks := true }, kinds := [], alts := [], laidByText := true, laidKinds := [.data, .data, .data, .sentinel, .sentinel], laidTests := true, laidLooks := .later }
def TickTextsUptoCardSaid : Prop := Claim7.holds Tryd.pinned (.plain (OpenSpec.upto tickTextsSpec)) tickTextsUptoCard

/-- THE SECOND FORM's CARD OF 'cubbyholelaw03.TickHolds'. -/
def tickHoldsUptoCard : Claim7 := { stood := { row := tickHoldsUptoRow, standIns := [], harness := (true, "8a547f2b0dba8f0e739b1abeb8d44a1608c19fcab1154b74fbca59e56cd5d71c"), looks := true }, kinds := [], alts := [], laidByText := true, laidKinds := [.data, .data, .data, .sentinel, .sentinel], laidTests := true, laidLooks := .later }
def TickHoldsUptoCardSaid : Prop := Claim7.holds Tryd.pinned (.plain (OpenSpec.upto tickHoldsSpec)) tickHoldsUptoCard
end Rows
end Go.Proofs.YtkllfeoepbahlaaDoor
