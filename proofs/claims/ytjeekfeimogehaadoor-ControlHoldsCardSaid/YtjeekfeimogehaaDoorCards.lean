/-
  DERIVED. GIVEN WITH THE SEED: THE CARDS: each row of YtjeekfeimogehaaDoorRows.lean that lists a variable, with what it lists TIED to the program's text (the seventh form; the later family's looks); each row that meets fmt, with fmt's text TOLD by the authors' own Lean function (tested against real Go, not proved from fmt's source: count such statements apart). THE CARD IS WHAT COUNTS. Prove the row's statement (the work); the ties are given (YtjeekfeimogehaaDoorTie.lean); close each card by the builder's one call (the guide's Derived/Test/ToyasCard.lean, 'card_holds'). Laid BY PROGRAM, IN A SANDBOX (cutbox-door.mjs). By AI agents, Wed Nov 11 2026. No macro, syntax, notation, axiom, sorry.
-/
import Derived.Test.YtjeekfeimogehaaDoorRows
import GoSem.ClaimSeven
namespace Go.Proofs.YtjeekfeimogehaaDoor
namespace Rows

/-- THE TIED CARD OF 'cubbyholelaw05.ControlLooks'. -/
def controlLooksCard : Claim7 := { stood := { row := controlLooksRow, standIns := [], harness := (true, "fec94d903b7932adf91b357cd262b3ea43d023bce1af6e79d4623ddce97132b8"), looks := false }, kinds := [], alts := [], laidByText := true, laidKinds := [.data, .data, .data], laidTests := true, laidLooks := .later }
def ControlLooksCardSaid : Prop := Claim7.holds Tryd.pinned (.plain (OpenSpec.ofChange controlLooksSpec)) controlLooksCard

/-- THE TIED CARD OF 'cubbyholelaw05.ControlSets'. -/
def controlSetsCard : Claim7 := { stood := { row := controlSetsRow, standIns := [], harness := (true, "fec94d903b7932adf91b357cd262b3ea43d023bce1af6e79d4623ddce97132b8"), looks := false }, kinds := [], alts := [], laidByText := true, laidKinds := [.data, .data, .data], laidTests := true, laidLooks := .later }
def ControlSetsCardSaid : Prop := Claim7.holds Tryd.pinned (.plain (OpenSpec.ofChange controlSetsSpec)) controlSetsCard

/-- THE TIED CARD OF 'cubbyholelaw05.ControlErases'. -/
def controlErasesCard : Claim7 := { stood := { row := controlErasesRow, standIns := [], harness := (true, "fec94d903b7932adf91b357cd262b3ea43d023bce1af6e79d4623ddce97132b8"), looks := false }, kinds := [], alts := [], laidByText := true, laidKinds := [.data, .data, .data], laidTests := true, laidLooks := .later }
def ControlErasesCardSaid : Prop := Claim7.holds Tryd.pinned (.plain (OpenSpec.ofChange controlErasesSpec)) controlErasesCard

/-- THE TIED CARD OF 'cubbyholelaw05.ControlTexts'. -/
def controlTextsCard : Claim7 := { stood := { row := controlTextsRow, standIns := [], harness := (true, "fec94d903b7932adf91b357cd262b3ea43d023bce1af6e79d4623ddce97132b8"), looks := false }, kinds := [], alts := [], laidByText := true, laidKinds := [.data, .data, .data], laidTests := true, laidLooks := .later }
def ControlTextsCardSaid : Prop := Claim7.holds Tryd.pinned (.plain (OpenSpec.ofChange controlTextsSpec)) controlTextsCard

/-- THE TIED CARD OF 'cubbyholelaw05.ControlHolds'. -/
def controlHoldsCard : Claim7 := { stood := { row := controlHoldsRow, standIns := [], harness := (true, "fec94d903b7932adf91b357cd262b3ea43d023bce1af6e79d4623ddce97132b8"), looks := false }, kinds := [], alts := [], laidByText := true, laidKinds := [.data, .data, .data], laidTests := true, laidLooks := .later }
def ControlHoldsCardSaid : Prop := Claim7.holds Tryd.pinned (.plain (OpenSpec.ofChange controlHoldsSpec)) controlHoldsCard

/-- THE SECOND FORM's CARD OF 'cubbyholelaw05.ControlLooks'. -/
def controlLooksUptoCard : Claim7 := { stood := { row := controlLooksUptoRow, standIns := [], harness := (true, "fec94d903b7932adf91b357cd262b3ea43d023bce1af6e79d4623ddce97132b8"), looks := false }, kinds := [], alts := [], laidByText := true, laidKinds := [.data, .data, .data], laidTests := true, laidLooks := .later }
def ControlLooksUptoCardSaid : Prop := Claim7.holds Tryd.pinned (.plain (OpenSpec.upto controlLooksSpec)) controlLooksUptoCard

/-- THE SECOND FORM's CARD OF 'cubbyholelaw05.ControlSets'. -/
def controlSetsUptoCard : Claim7 := { stood := { row := controlSetsUptoRow, standIns := [], harness := (true, "fec94d903b7932adf91b357cd262b3ea43d023bce1af6e79d4623ddce97132b8"), looks := false }, kinds := [], alts := [], laidByText := true, laidKinds := [.data, .data, .data], laidTests := true, laidLooks := .later }
def ControlSetsUptoCardSaid : Prop := Claim7.holds Tryd.pinned (.plain (OpenSpec.upto controlSetsSpec)) controlSetsUptoCard

/-- THE SECOND FORM's CARD OF 'cubbyholelaw05.ControlErases'. -/
def controlErasesUptoCard : Claim7 := { stood := { row := controlErasesUptoRow, standIns := [], harness := (true, "fec94d903b7932adf91b357cd262b3ea43d023bce1af6e79d4623ddce97132b8"), looks := false }, kinds := [], alts := [], laidByText := true, laidKinds := [.data, .data, .data], laidTests := true, laidLooks := .later }
def ControlErasesUptoCardSaid : Prop := Claim7.holds Tryd.pinned (.plain (OpenSpec.upto controlErasesSpec)) controlErasesUptoCard

/-- THE SECOND FORM's CARD OF 'cubbyholelaw05.ControlTexts'. -/
def controlTextsUptoCard : Claim7 := { stood := { row := controlTextsUptoRow, standIns := [], harness := (true, "fec94d903b7932adf91b357cd262b3ea43d023bce1af6e79d4623ddce97132b8"), looks := false }, kinds := [], alts := [], laidByText := true, laidKinds := [.data, .data, .data], laidTests := true, laidLooks := .later }
def ControlTextsUptoCardSaid : Prop := Claim7.holds Tryd.pinned (.plain (OpenSpec.upto controlTextsSpec)) controlTextsUptoCard

/-- THE SECOND FORM's CARD OF 'cubbyholelaw05.ControlHolds'. -/
def controlHoldsUptoCard : Claim7 := { stood := { row := controlHoldsUptoRow, standIns := [], harness := (true, "fec94d903b7932adf91b357cd262b3ea43d023bce1af6e79d4623ddce97132b8"), looks := false }, kinds := [], alts := [], laidByText := true, laidKinds := [.data, .data, .data], laidTests := true, laidLooks := .later }
def ControlHoldsUptoCardSaid : Prop := Claim7.holds Tryd.pinned (.plain (OpenSpec.upto controlHoldsSpec)) controlHoldsUptoCard
end Rows
end Go.Proofs.YtjeekfeimogehaaDoor
