/-
  DERIVED. GIVEN WITH THE SEED: THE CARDS: each row of YtpojemlnhbdfmaaDoorRows.lean that lists a variable, with what it lists TIED to the program's text (the seventh form; the later family's looks); each row that meets fmt, with fmt's text TOLD by the authors' own Lean function (tested against real Go, not proved from fmt's source: count such statements apart). THE CARD IS WHAT COUNTS. Prove the row's statement (the work); the ties are given (YtpojemlnhbdfmaaDoorTie.lean); close each card by the builder's one call (the guide's Derived/Test/ToyasCard.lean, 'card_holds'). Laid BY PROGRAM, IN A SANDBOX (cutbox-door.mjs). By AI agents, Wed Nov 11 2026. No macro, syntax, notation, axiom, sorry.
-/
import Derived.Test.YtpojemlnhbdfmaaDoorRows
import GoSem.ClaimSeven
namespace Go.Proofs.YtpojemlnhbdfmaaDoor
namespace Rows

/-- THE TIED CARD OF 'cubbyholelaw23.ConfigChecks'. -/
def configChecksCard : Claim7 := { stood := { row := configChecksRow, standIns := [], harness := (true, "fe7e92689013ba2b06df85251f56125f8a9b9011e4f7a7c34722295c42e35ebc"), looks := true }, kinds := [], alts := [], laidByText := true, laidKinds := [.data, .data, .data, .sentinel, .sentinel, .listed, .data, .data], laidTests := true, laidLooks := .later }
def ConfigChecksCardSaid : Prop := Claim7.holds Tryd.pinned (.plain (OpenSpec.ofChange configChecksSpec)) configChecksCard

/-- THE TIED CARD OF 'cubbyholelaw23.ConfigParses'. -/
def configParsesCard : Claim7 := { stood := { row := configParsesRow, standIns := [], harness := (true, "fe7e92689013ba2b06df85251f56125f8a9b9011e4f7a7c34722295c42e35ebc"), looks := true }, kinds := [], alts := [], laidByText := true, laidKinds := [.data, .data, .data, .sentinel, .sentinel, .listed, .data, .data], laidTests := true, laidLooks := .later }
def ConfigParsesCardSaid : Prop := Claim7.holds Tryd.pinned (.plain (OpenSpec.ofChange configParsesSpec)) configParsesCard

/-- THE TIED CARD OF 'cubbyholelaw23.ConfigSpoils'. -/
def configSpoilsCard : Claim7 := { stood := { row := configSpoilsRow, standIns := [], harness := (true, "fe7e92689013ba2b06df85251f56125f8a9b9011e4f7a7c34722295c42e35ebc"), looks := true }, kinds := [], alts := [], laidByText := true, laidKinds := [.data, .data, .data, .sentinel, .sentinel, .listed, .data, .data], laidTests := true, laidLooks := .later }
def ConfigSpoilsCardSaid : Prop := Claim7.holds Tryd.pinned (.plain (OpenSpec.ofChange configSpoilsSpec)) configSpoilsCard

/-- THE TIED CARD OF 'cubbyholelaw23.ConfigResizes'. -/
def configResizesCard : Claim7 := { stood := { row := configResizesRow, standIns := [], harness := (true, "fe7e92689013ba2b06df85251f56125f8a9b9011e4f7a7c34722295c42e35ebc"), looks := true }, kinds := [], alts := [], laidByText := true, laidKinds := [.data, .data, .data, .sentinel, .sentinel, .listed, .data, .data], laidTests := true, laidLooks := .later }
def ConfigResizesCardSaid : Prop := Claim7.holds Tryd.pinned (.plain (OpenSpec.ofChange configResizesSpec)) configResizesCard

/-- THE TIED CARD OF 'cubbyholelaw23.ConfigHolds'. -/
def configHoldsCard : Claim7 := { stood := { row := configHoldsRow, standIns := [], harness := (true, "fe7e92689013ba2b06df85251f56125f8a9b9011e4f7a7c34722295c42e35ebc"), looks := true }, kinds := [], alts := [], laidByText := true, laidKinds := [.data, .data, .data, .sentinel, .sentinel, .listed, .data, .data], laidTests := true, laidLooks := .later }
def ConfigHoldsCardSaid : Prop := Claim7.holds Tryd.pinned (.plain (OpenSpec.ofChange configHoldsSpec)) configHoldsCard

/-- THE SECOND FORM's CARD OF 'cubbyholelaw23.ConfigChecks'. -/
def configChecksUptoCard : Claim7 := { stood := { row := configChecksUptoRow, standIns := [], harness := (true, "fe7e92689013ba2b06df85251f56125f8a9b9011e4f7a7c34722295c42e35ebc"), looks := true }, kinds := [], alts := [], laidByText := true, laidKinds := [.data, .data, .data, .sentinel, .sentinel, .listed, .data, .data], laidTests := true, laidLooks := .later }
def ConfigChecksUptoCardSaid : Prop := Claim7.holds Tryd.pinned (.plain (OpenSpec.upto configChecksSpec)) configChecksUptoCard

/-- THE SECOND FORM's CARD OF 'cubbyholelaw23.ConfigParses'. -/
def configParsesUptoCard : Claim7 := { stood := { row := configParsesUptoRow, standIns := [], harness := (true, "fe7e92689013ba2b06df85251f56125f8a9b9011e4f7a7c34722295c42e35ebc"), looks := true }, kinds := [], alts := [], laidByText := true, laidKinds := [.data, .data, .data, .sentinel, .sentinel, .listed, .data, .data], laidTests := true, laidLooks := .later }
def ConfigParsesUptoCardSaid : Prop := Claim7.holds Tryd.pinned (.plain (OpenSpec.upto configParsesSpec)) configParsesUptoCard

/-- THE SECOND FORM's CARD OF 'cubbyholelaw23.ConfigSpoils'. -/
def configSpoilsUptoCard : Claim7 := { stood := { row := configSpoilsUptoRow, standIns := [], harness := (true, "fe7e92689013ba2b06df85251f56125f8a9b9011e4f7a7c34722295c42e35ebc"), looks := true }, kinds := [], alts := [], laidByText := true, laidKinds := [.data, .data, .data, .sentinel, .sentinel, .listed, .data, .data], laidTests := true, laidLooks := .later }
def ConfigSpoilsUptoCardSaid : Prop := Claim7.holds Tryd.pinned (.plain (OpenSpec.upto configSpoilsSpec)) configSpoilsUptoCard

/-- THE SECOND FORM's CARD OF 'cubbyholelaw23.ConfigResizes'. -/
def configResizesUptoCard : Claim7 := { stood := { row := configResizesUptoRow, standIns := [], harness := (true, "fe7e92689013ba2b06df85251f56125f8a9b9011e4f7a7c34722295c42e35ebc"), looks := true }, kinds := [], alts := [], laidByText := true, laidKinds := [.data, .data, .data, .sentinel, .sentinel, .listed, .data, .data], laidTests := true, laidLooks := .later }
def ConfigResizesUptoCardSaid : Prop := Claim7.holds Tryd.pinned (.plain (OpenSpec.upto configResizesSpec)) configResizesUptoCard

/-- THE SECOND FORM's CARD OF 'cubbyholelaw23.ConfigHolds'. -/
def configHoldsUptoCard : Claim7 := { stood := { row := configHoldsUptoRow, standIns := [], harness := (true, "fe7e92689013ba2b06df85251f56125f8a9b9011e4f7a7c34722295c42e35ebc"), looks := true }, kinds := [], alts := [], laidByText := true, laidKinds := [.data, .data, .data, .sentinel, .sentinel, .listed, .data, .data], laidTests := true, laidLooks := .later }
def ConfigHoldsUptoCardSaid : Prop := Claim7.holds Tryd.pinned (.plain (OpenSpec.upto configHoldsSpec)) configHoldsUptoCard
end Rows
end Go.Proofs.YtpojemlnhbdfmaaDoor
