/-
  DERIVED. GIVEN WITH THE SEED: THE CARDS: each row of YthlnhemdhlkhfaaDoorRows.lean that lists a variable, with what it lists TIED to the program's text (the seventh form; the later family's looks); each row that meets fmt, with fmt's text TOLD by the authors' own Lean function (tested against real Go, not proved from fmt's source: count such statements apart). THE CARD IS WHAT COUNTS. Prove the row's statement (the work); the ties are given (YthlnhemdhlkhfaaDoorTie.lean); close each card by the builder's one call (the guide's Derived/Test/ToyasCard.lean, 'card_holds'). Laid BY PROGRAM, IN A SANDBOX (cutbox-door.mjs). By AI agents, Wed Nov 11 2026. No macro, syntax, notation, axiom, sorry.
-/
import Derived.Test.YthlnhemdhlkhfaaDoorRows
import GoSem.ClaimSeven
namespace Go.Proofs.YthlnhemdhlkhfaaDoor
namespace Rows

/-- THE TIED CARD OF 'cubbyholelaw38.LoadNumbers'. -/
def loadNumbersCard : Claim7 := { stood := { row := loadNumbersRow, standIns := [], harness := (true, "f522ccc5d5de82ffff5e65cfc5476534f720600e0f6b2c5df7bf2ee3d0df8e94"), looks := true }, kinds := [], alts := [], laidByText := true, laidKinds := [.data, .data, .data, .sentinel, .sentinel], laidTests := true, laidLooks := .later }
def LoadNumbersCardSaid : Prop := Claim7.holds Tryd.pinned (.plain (OpenSpec.ofChange loadNumbersSpec)) loadNumbersCard

/-- THE TIED CARD OF 'cubbyholelaw38.LoadMakes'. -/
def loadMakesCard : Claim7 := { stood := { row := loadMakesRow, standIns := [], harness := (true, "f522ccc5d5de82ffff5e65cfc5476534f720600e0f6b2c5df7bf2ee3d0df8e94"), looks := true }, kinds := [], alts := [], laidByText := true, laidKinds := [.data, .data, .data, .sentinel, .sentinel], laidTests := true, laidLooks := .later }
def LoadMakesCardSaid : Prop := Claim7.holds Tryd.pinned (.plain (OpenSpec.ofChange loadMakesSpec)) loadMakesCard

/-- THE TIED CARD OF 'cubbyholelaw38.LoadCounts'. -/
def loadCountsCard : Claim7 := { stood := { row := loadCountsRow, standIns := [], harness := (true, "f522ccc5d5de82ffff5e65cfc5476534f720600e0f6b2c5df7bf2ee3d0df8e94"), looks := true }, kinds := [], alts := [], laidByText := true, laidKinds := [.data, .data, .data, .sentinel, .sentinel], laidTests := true, laidLooks := .later }
def LoadCountsCardSaid : Prop := Claim7.holds Tryd.pinned (.plain (OpenSpec.ofChange loadCountsSpec)) loadCountsCard

/-- THE TIED CARD OF 'cubbyholelaw38.LoadTexts'. -/
def loadTextsCard : Claim7 := { stood := { row := loadTextsRow, standIns := [], harness := (true, "f522ccc5d5de82ffff5e65cfc5476534f720600e0f6b2c5df7bf2ee3d0df8e94"), looks := true }, kinds := [], alts := [], laidByText := true, laidKinds := [.data, .data, .data, .sentinel, .sentinel], laidTests := true, laidLooks := .later }
def LoadTextsCardSaid : Prop := Claim7.holds Tryd.pinned (.plain (OpenSpec.ofChange loadTextsSpec)) loadTextsCard

/-- THE TIED CARD OF 'cubbyholelaw38.LoadHolds'. -/
def loadHoldsCard : Claim7 := { stood := { row := loadHoldsRow, standIns := [], harness := (true, "f522ccc5d5de82ffff5e65cfc5476534f720600e0f6b2c5df7bf2ee3d0df8e94"), looks := true }, kinds := [], alts := [], laidByText := true, laidKinds := [.data, .data, .data, .sentinel, .sentinel], laidTests := true, laidLooks := .later }
def LoadHoldsCardSaid : Prop := Claim7.holds Tryd.pinned (.plain (OpenSpec.ofChange loadHoldsSpec)) loadHoldsCard

/-- THE SECOND FORM's CARD OF 'cubbyholelaw38.LoadNumbers'. -/
def loadNumbersUptoCard : Claim7 := { stood := { row := loadNumbersUptoRow, standIns := [], harness := (true, "f522ccc5d5de82ffff5e65cfc5476534f720600e0f6b2c5df7bf2ee3d0df8e94"), looks := true }, kinds := [], alts := [], laidByText := true, laidKinds := [.data, .data, .data, .sentinel, .sentinel], laidTests := true, laidLooks := .later }
def LoadNumbersUptoCardSaid : Prop := Claim7.holds Tryd.pinned (.plain (OpenSpec.upto loadNumbersSpec)) loadNumbersUptoCard

/-- THE SECOND FORM's CARD OF 'cubbyholelaw38.LoadMakes'. -/
def loadMakesUptoCard : Claim7 := { stood := { row := loadMakesUptoRow, standIns := [], harness := (true, "f522ccc5d5de82ffff5e65cfc5476534f720600e0f6b2c5df7bf2ee3d0df8e94"), looks := true }, kinds := [], alts := [], laidByText := true, laidKinds := [.data, .data, .data, .sentinel, .sentinel], laidTests := true, laidLooks := .later }
def LoadMakesUptoCardSaid : Prop := Claim7.holds Tryd.pinned (.plain (OpenSpec.upto loadMakesSpec)) loadMakesUptoCard

/-- THE SECOND FORM's CARD OF 'cubbyholelaw38.LoadCounts'. -/
def loadCountsUptoCard : Claim7 := { stood := { row := loadCountsUptoRow, standIns := [], harness := (true, "f522ccc5d5de82ffff5e65cfc5476534f720600e0f6b2c5df7bf2ee3d0df8e94"), looks := true }, kinds := [], alts := [], laidByText := true, laidKinds := [.data, .data, .data, .sentinel, .sentinel], laidTests := true, laidLooks := .later }
def LoadCountsUptoCardSaid : Prop := Claim7.holds Tryd.pinned (.plain (OpenSpec.upto loadCountsSpec)) loadCountsUptoCard

/-- THE SECOND FORM's CARD OF 'cubbyholelaw38.LoadTexts'. -/
def loadTextsUptoCard : Claim7 := { stood := { row := loadTextsUptoRow, standIns := [], harness := (true, "f522ccc5d5de82ffff5e65cfc5476534f720600e0f6b2c5df7bf2ee3d0df8e94"), looks := true }, kinds := [], alts := [], laidByText := true, laidKinds := [.data, .data, .data, .sentinel, .sentinel], laidTests := true, laidLooks := .later }
def LoadTextsUptoCardSaid : Prop := Claim7.holds Tryd.pinned (.plain (OpenSpec.upto loadTextsSpec)) loadTextsUptoCard

/-- THE SECOND FORM's CARD OF 'cubbyholelaw38.LoadHolds'. -/
def loadHoldsUptoCard : Claim7 := { stood := { row := loadHoldsUptoRow, standIns := [], harness := (true, "f522ccc5d5de82ffff5e65cfc5476534f720600e0f6b2c5df7bf2ee3d0df8e94"), looks := true }, kinds := [], alts := [], laidByText := true, laidKinds := [.data, .data, .data, .sentinel, .sentinel], laidTests := true, laidLooks := .later }
def LoadHoldsUptoCardSaid : Prop := Claim7.holds Tryd.pinned (.plain (OpenSpec.upto loadHoldsSpec)) loadHoldsUptoCard
end Rows
end Go.Proofs.YthlnhemdhlkhfaaDoor
