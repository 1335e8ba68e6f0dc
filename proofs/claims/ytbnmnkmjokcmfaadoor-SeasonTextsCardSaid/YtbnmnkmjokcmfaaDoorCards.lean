/-
  DERIVED. GIVEN WITH THE SEED: THE CARDS: each row of YtbnmnkmjokcmfaaDoorRows.lean that lists a variable, with what it lists TIED to the program's text (the seventh form; the later family's looks); each row that meets fmt, with fmt's text TOLD by the authors' own Lean function (tested against real Go, not proved from fmt's source: count such statements apart). THE CARD IS WHAT COUNTS. Prove the row's statement (the work); the ties are given (YtbnmnkmjokcmfaaDoorTie.lean); close each card by the builder's one call (the guide's Derived/Test/ToyasCard.lean, 'card_holds'). Laid BY PROGRAM, IN A SANDBOX (cutbox-door.mjs). By AI agents, Wed Nov 11 2026. No macro, syntax, notation, axiom, sorry.
-/
import Derived.Test.YtbnmnkmjokcmfaaDoorRows
import GoSem.ClaimSeven
namespace Go.Proofs.YtbnmnkmjokcmfaaDoor
namespace Rows

/-- THE TIED CARD OF 'cubbyholelaw50.SeasonTexts'. -/
def seasonTextsCard : Claim7 := { stood := { row := seasonTextsRow, standIns := [], harness := (true, "8c7274568335d64b5565a244fdb814debf1029ea4971126cd1256b07bbca0e8f"), looks := true }, kinds := [], alts := [], laidByText := true, laidKinds := [.data, .data, .data, .data, .sentinel, .sentinel, .pinned], laidTests := true, laidLooks := .later }
def SeasonTextsCardSaid : Prop := Claim7.holds Tryd.pinned (.plain (OpenSpec.ofChange seasonTextsSpec)) seasonTextsCard

/-- THE TIED CARD OF 'cubbyholelaw50.SeasonTransforms'. -/
def seasonTransformsCard : Claim7 := { stood := { row := seasonTransformsRow, standIns := [], harness := (true, "8c7274568335d64b5565a244fdb814debf1029ea4971126cd1256b07bbca0e8f"), looks := true }, kinds := [], alts := [], laidByText := true, laidKinds := [.data, .data, .data, .data, .sentinel, .sentinel, .pinned], laidTests := true, laidLooks := .later }
def SeasonTransformsCardSaid : Prop := Claim7.holds Tryd.pinned (.plain (OpenSpec.ofChange seasonTransformsSpec)) seasonTransformsCard

/-- THE TIED CARD OF 'cubbyholelaw50.SeasonHolds'. -/
def seasonHoldsCard : Claim7 := { stood := { row := seasonHoldsRow, standIns := [], harness := (true, "8c7274568335d64b5565a244fdb814debf1029ea4971126cd1256b07bbca0e8f"), looks := true }, kinds := [], alts := [], laidByText := true, laidKinds := [.data, .data, .data, .data, .sentinel, .sentinel, .pinned], laidTests := true, laidLooks := .later }
def SeasonHoldsCardSaid : Prop := Claim7.holds Tryd.pinned (.plain (OpenSpec.ofChange seasonHoldsSpec)) seasonHoldsCard

/-- THE TIED CARD OF 'cubbyholelaw50.SeasonPlays'. -/
def seasonPlaysCard : Claim7 := { stood := { row := seasonPlaysRow, standIns := [], harness := (true, "8c7274568335d64b5565a244fdb814debf1029ea4971126cd1256b07bbca0e8f"), looks := true }, kinds := [], alts := [], laidByText := true, laidKinds := [.data, .data, .data, .data, .sentinel, .sentinel, .pinned], laidTests := true, laidLooks := .later }
def SeasonPlaysCardSaid : Prop := Claim7.holds Tryd.pinned (.plain (OpenSpec.ofChange seasonPlaysSpec)) seasonPlaysCard

/-- THE TIED CARD OF 'cubbyholelaw50.SeasonNone'. -/
def seasonNoneCard : Claim7 := { stood := { row := seasonNoneRow, standIns := [], harness := (true, "8c7274568335d64b5565a244fdb814debf1029ea4971126cd1256b07bbca0e8f"), looks := true }, kinds := [], alts := [], laidByText := true, laidKinds := [.data, .data, .data, .data, .sentinel, .sentinel, .pinned], laidTests := true, laidLooks := .later }
def SeasonNoneCardSaid : Prop := Claim7.holds Tryd.pinned (.plain (OpenSpec.ofChange seasonNoneSpec)) seasonNoneCard

/-- THE SECOND FORM's CARD OF 'cubbyholelaw50.SeasonTexts'. -/
def seasonTextsUptoCard : Claim7 := { stood := { row := seasonTextsUptoRow, standIns := [], harness := (true, "8c7274568335d64b5565a244fdb814debf1029ea4971126cd1256b07bbca0e8f"), looks := true }, kinds := [], alts := [], laidByText := true, laidKinds := [.data, .data, .data, .data, .sentinel, .sentinel, .pinned], laidTests := true, laidLooks := .later }
def SeasonTextsUptoCardSaid : Prop := Claim7.holds Tryd.pinned (.plain (OpenSpec.upto seasonTextsSpec)) seasonTextsUptoCard

/-- THE SECOND FORM's CARD OF 'cubbyholelaw50.SeasonTransforms'. -/
def seasonTransformsUptoCard : Claim7 := { stood := { row := seasonTransformsUptoRow, standIns := [], harness := (true, "8c7274568335d64b5565a244fdb814debf1029ea4971126cd1256b07bbca0e8f"), looks := true }, kinds := [], alts := [], laidByText := true, laidKinds := [.data, .data, .data, .data, .sentinel, .sentinel, .pinned], laidTests := true, laidLooks := .later }
def SeasonTransformsUptoCardSaid : Prop := Claim7.holds Tryd.pinned (.plain (OpenSpec.upto seasonTransformsSpec)) seasonTransformsUptoCard

/-- THE SECOND FORM's CARD OF 'cubbyholelaw50.SeasonHolds'. -/
def seasonHoldsUptoCard : Claim7 := { stood := { row := seasonHoldsUptoRow, standIns := [], harness := (true, "8c7274568335d64b5565a244fdb814debf1029ea4971126cd1256b07bbca0e8f"), looks := true }, kinds := [], alts := [], laidByText := true, laidKinds := [.data, .data, .data, .data, .sentinel, .sentinel, .pinned], laidTests := true, laidLooks := .later }
def SeasonHoldsUptoCardSaid : Prop := Claim7.holds Tryd.pinned (.plain (OpenSpec.upto seasonHoldsSpec)) seasonHoldsUptoCard

/-- THE SECOND FORM's CARD OF 'cubbyholelaw50.SeasonPlays'. -/
def seasonPlaysUptoCard : Claim7 := { stood := { row := seasonPlaysUptoRow, standIns := [], harness := (true, "8c7274568335d64b5565a244fdb814debf1029ea4971126cd1256b07bbca0e8f"), looks := true }, kinds := [], alts := [], laidByText := true, laidKinds := [.data, .data, .data, .data, .sentinel, .sentinel, .pinned], laidTests := true, laidLooks := .later }
def SeasonPlaysUptoCardSaid : Prop := Claim7.holds Tryd.pinned (.plain (OpenSpec.upto seasonPlaysSpec)) seasonPlaysUptoCard

/-- THE SECOND FORM's CARD OF 'cubbyholelaw50.SeasonNone'. -/
def seasonNoneUptoCard : Claim7 := { stood := { row := seasonNoneUptoRow, standIns := [], harness := (true, "8c7274568335d64b5565a244fdb814debf1029ea4971126cd1256b07bbca0e8f"), looks := true }, kinds := [], alts := [], laidByText := true, laidKinds := [.data, .data, .data, .data, .sentinel, .sentinel, .pinned], laidTests := true, laidLooks := .later }
def SeasonNoneUptoCardSaid : Prop := Claim7.holds Tryd.pinned (.plain (OpenSpec.upto seasonNoneSpec)) seasonNoneUptoCard
end Rows
end Go.Proofs.YtbnmnkmjokcmfaaDoor
