/-
  No cell of these rows narrows 'for every input' (looked for: loops, veiled, ifaces, maps, wideKeys, modest, calm, conditions, laid).
  DERIVED. THE GIVEN ROWS OF THIS SEAT. 6 by the template 'for every input the law returns true; each argument reads behind the call as it read before'; 0 by the template 'total and deterministic' (their statements: YtbhfpofcebepiaaTotals.lean).
  GIVEN WITH THE SEED: the statements are not yours to turn. If you find one false, say at which input.
  Laid BY PROGRAM, IN A SANDBOX (cutbox-rows.mjs): the forced cells as the released guide's own fill.sh prints them over the translation 606c9f057adfdabf… (all of the seat's roots in one cut). By AI agents, Wed Nov 11 2026. No macro, syntax, notation, axiom, sorry.
-/
import Derived.Test.YtbhfpofcebepiaaChecked
import GoSem.Claim
import GoSem.ClaimJoined
import GoSem.ClaimMapViews
import Derived.JoinedTies
import Derived.KernelRfl
namespace Go.Proofs.Ytbhfpofcebepiaa
/- THE CELL 'sum', in the pinned program and in every row, IS THE sha256 OF THE DUMP (.gsa) THAT YtbhfpofcebepiaaProg.lean LOADS. Nothing in Lean hashes anything: it is a label: what it is worth is what the hold of that sum in a sandbox is worth. -/
noncomputable def Try.pinned : Pinned := { name := "ytbhfpofcebepiaa", sum := "606c9f057adfdabf8879af25ebf098cea901bf3e91f97002d0345f9ea192b532", checked := Try.checked }
namespace Rows
def none {H : Type} : Left H := { results := [], args := [] }

/-- 'cubbyholelaw36.BeladyNext': WHATEVER THE INPUT: true; the input reads as it did. -/
def beladyNextSpec : ChangeSpec := { name := "beladyNext", fn := fun _ => fun
  | [d] => { results := [.lit (.bool true)], args := [d] }
  | _ => none }
def beladyNextRow : OpenClaim := { program := "ytbhfpofcebepiaa", sum := "606c9f057adfdabf8879af25ebf098cea901bf3e91f97002d0345f9ea192b532", func := "cubbyhole/cubbyholelaw36.BeladyNext", spec := "beladyNext", unfollowed := true, recurses := true, plainKeys := false, apart := false }
def BeladyNextSaid : Prop := beladyNextRow.holds Try.pinned (OpenSpec.ofChange beladyNextSpec)

/-- ITS FALSE NEIGHBOUR: 'it returns false'. Refute it at one input. -/
def beladyNextWrong : ChangeSpec := { name := "beladyNext", fn := fun _ => fun
  | [d] => { results := [.lit (.bool false)], args := [d] }
  | _ => none }
def BeladyNextWrongFalsely : Prop := beladyNextRow.holds Try.pinned (OpenSpec.ofChange beladyNextWrong)

/-- 'cubbyholelaw36.BeladyTurns': WHATEVER THE INPUT: true; the input reads as it did. -/
def beladyTurnsSpec : ChangeSpec := { name := "beladyTurns", fn := fun _ => fun
  | [d1, d2] => { results := [.lit (.bool true)], args := [d1, d2] }
  | _ => none }
def beladyTurnsRow : OpenClaim := { program := "ytbhfpofcebepiaa", sum := "606c9f057adfdabf8879af25ebf098cea901bf3e91f97002d0345f9ea192b532", func := "cubbyhole/cubbyholelaw36.BeladyTurns", spec := "beladyTurns", unfollowed := true, recurses := true, plainKeys := false, apart := false }
def BeladyTurnsSaid : Prop := beladyTurnsRow.holds Try.pinned (OpenSpec.ofChange beladyTurnsSpec)

/-- ITS FALSE NEIGHBOUR: 'it returns false'. Refute it at one input. -/
def beladyTurnsWrong : ChangeSpec := { name := "beladyTurns", fn := fun _ => fun
  | [d1, d2] => { results := [.lit (.bool false)], args := [d1, d2] }
  | _ => none }
def BeladyTurnsWrongFalsely : Prop := beladyTurnsRow.holds Try.pinned (OpenSpec.ofChange beladyTurnsWrong)

/-- 'cubbyholelaw36.BeladyChecks': WHATEVER THE INPUT: true; the input reads as it did. -/
def beladyChecksSpec : ChangeSpec := { name := "beladyChecks", fn := fun _ => fun
  | [d1, d2, d3] => { results := [.lit (.bool true)], args := [d1, d2, d3] }
  | _ => none }
def beladyChecksRow : OpenClaim := { program := "ytbhfpofcebepiaa", sum := "606c9f057adfdabf8879af25ebf098cea901bf3e91f97002d0345f9ea192b532", func := "cubbyhole/cubbyholelaw36.BeladyChecks", spec := "beladyChecks", unfollowed := true, recurses := true, plainKeys := false, apart := false }
def BeladyChecksSaid : Prop := beladyChecksRow.holds Try.pinned (OpenSpec.ofChange beladyChecksSpec)

/-- ITS FALSE NEIGHBOUR: 'it returns false'. Refute it at one input. -/
def beladyChecksWrong : ChangeSpec := { name := "beladyChecks", fn := fun _ => fun
  | [d1, d2, d3] => { results := [.lit (.bool false)], args := [d1, d2, d3] }
  | _ => none }
def BeladyChecksWrongFalsely : Prop := beladyChecksRow.holds Try.pinned (OpenSpec.ofChange beladyChecksWrong)

/-- 'cubbyholelaw36.BeladyBest': WHATEVER THE INPUT: true; the input reads as it did. -/
def beladyBestSpec : ChangeSpec := { name := "beladyBest", fn := fun _ => fun
  | [d1, d2] => { results := [.lit (.bool true)], args := [d1, d2] }
  | _ => none }
def beladyBestRow : OpenClaim := { program := "ytbhfpofcebepiaa", sum := "606c9f057adfdabf8879af25ebf098cea901bf3e91f97002d0345f9ea192b532", func := "cubbyhole/cubbyholelaw36.BeladyBest", spec := "beladyBest", unfollowed := true, recurses := true, plainKeys := false, apart := false }
def BeladyBestSaid : Prop := beladyBestRow.holds Try.pinned (OpenSpec.ofChange beladyBestSpec)

/-- ITS FALSE NEIGHBOUR: 'it returns false'. Refute it at one input. -/
def beladyBestWrong : ChangeSpec := { name := "beladyBest", fn := fun _ => fun
  | [d1, d2] => { results := [.lit (.bool false)], args := [d1, d2] }
  | _ => none }
def BeladyBestWrongFalsely : Prop := beladyBestRow.holds Try.pinned (OpenSpec.ofChange beladyBestWrong)

/-- 'cubbyholelaw36.BeladyLongs': WHATEVER THE INPUT: true; the input reads as it did. -/
def beladyLongsSpec : ChangeSpec := { name := "beladyLongs", fn := fun _ => fun
  | [d1, d2, d3] => { results := [.lit (.bool true)], args := [d1, d2, d3] }
  | _ => none }
def beladyLongsRow : OpenClaim := { program := "ytbhfpofcebepiaa", sum := "606c9f057adfdabf8879af25ebf098cea901bf3e91f97002d0345f9ea192b532", func := "cubbyhole/cubbyholelaw36.BeladyLongs", spec := "beladyLongs", unfollowed := true, recurses := true, plainKeys := false, apart := false }
def BeladyLongsSaid : Prop := beladyLongsRow.holds Try.pinned (OpenSpec.ofChange beladyLongsSpec)

/-- ITS FALSE NEIGHBOUR: 'it returns false'. Refute it at one input. -/
def beladyLongsWrong : ChangeSpec := { name := "beladyLongs", fn := fun _ => fun
  | [d1, d2, d3] => { results := [.lit (.bool false)], args := [d1, d2, d3] }
  | _ => none }
def BeladyLongsWrongFalsely : Prop := beladyLongsRow.holds Try.pinned (OpenSpec.ofChange beladyLongsWrong)

/-- 'cubbyholelaw36.BeladyHolds': WHATEVER THE INPUT: true; the input reads as it did. -/
def beladyHoldsSpec : ChangeSpec := { name := "beladyHolds", fn := fun _ => fun
  | [d1, d2, d3] => { results := [.lit (.bool true)], args := [d1, d2, d3] }
  | _ => none }
def beladyHoldsRow : OpenClaim := { program := "ytbhfpofcebepiaa", sum := "606c9f057adfdabf8879af25ebf098cea901bf3e91f97002d0345f9ea192b532", func := "cubbyhole/cubbyholelaw36.BeladyHolds", spec := "beladyHolds", unfollowed := true, recurses := true, plainKeys := false, apart := false }
def BeladyHoldsSaid : Prop := beladyHoldsRow.holds Try.pinned (OpenSpec.ofChange beladyHoldsSpec)

/-- ITS FALSE NEIGHBOUR: 'it returns false'. Refute it at one input. -/
def beladyHoldsWrong : ChangeSpec := { name := "beladyHolds", fn := fun _ => fun
  | [d1, d2, d3] => { results := [.lit (.bool false)], args := [d1, d2, d3] }
  | _ => none }
def BeladyHoldsWrongFalsely : Prop := beladyHoldsRow.holds Try.pinned (OpenSpec.ofChange beladyHoldsWrong)

/- THE SECOND FORM. 'bulk': how many values and letters a reading holds, each counted each time it is reached (what is shared counts as often as it is met; a slice's spare places count too). A statement '..UptoSaid' is the law's where the arguments, and the package variables that the reading takes, are together of bulk at most 1048576: NARROWER than '..Said'. Prove '..Said' where nothing that the law and all that it calls make is longer than what came in: it says more and counts as full. Else prove '..UptoSaid'. A law counts once. -/
mutual
def uptoBulk {H : Type} : DataW H → Nat
  | .lit (.string bytes) => bytes.length + 1
  | .lit _ => 1
  | .nil => 1
  | .ptr d => uptoBulk d + 1
  | .slice elems spare => uptoBulkAll elems + uptoBulkAll spare + 1
  | .agg parts => uptoBulkAll parts + 1
  | .iface _ d => uptoBulk d + 1
  | .map entries => uptoBulkEntries entries + 1
  | .held _ => 1
def uptoBulkAll {H : Type} : List (DataW H) → Nat
  | [] => 0
  | d :: r => uptoBulk d + uptoBulkAll r
def uptoBulkEntries {H : Type} : List (Lit × DataW H) → Nat
  | [] => 0
  | x :: r => uptoBulkEntry x + uptoBulkEntries r
def uptoBulkEntry {H : Type} : Lit × DataW H → Nat
  | (.string bytes, d) => bytes.length + uptoBulk d + 1
  | (_, d) => uptoBulk d + 1
 end
def uptoSmall : (H : Type) → List (DataW H) → Bool := fun _ ds => decide (uptoBulkAll ds ≤ 1048576)
def OpenSpec.upto (s : _root_.Go.ChangeSpec) : _root_.Go.OpenSpec := { _root_.Go.OpenSpec.ofChange s with cond := some uptoSmall }

/-- 'cubbyholelaw36.BeladyNext', WHERE WHAT IT READS IS OF BULK AT MOST 1048576: true; the input reads as it did. -/
def beladyNextUptoRow : OpenClaim := { program := "ytbhfpofcebepiaa", sum := "606c9f057adfdabf8879af25ebf098cea901bf3e91f97002d0345f9ea192b532", func := "cubbyhole/cubbyholelaw36.BeladyNext", spec := "beladyNext", unfollowed := true, recurses := true, plainKeys := false, apart := false, narrowed := true }
def BeladyNextUptoSaid : Prop := beladyNextUptoRow.holds Try.pinned (OpenSpec.upto beladyNextSpec)

/-- 'cubbyholelaw36.BeladyTurns', WHERE WHAT IT READS IS OF BULK AT MOST 1048576: true; the input reads as it did. -/
def beladyTurnsUptoRow : OpenClaim := { program := "ytbhfpofcebepiaa", sum := "606c9f057adfdabf8879af25ebf098cea901bf3e91f97002d0345f9ea192b532", func := "cubbyhole/cubbyholelaw36.BeladyTurns", spec := "beladyTurns", unfollowed := true, recurses := true, plainKeys := false, apart := false, narrowed := true }
def BeladyTurnsUptoSaid : Prop := beladyTurnsUptoRow.holds Try.pinned (OpenSpec.upto beladyTurnsSpec)

/-- 'cubbyholelaw36.BeladyChecks', WHERE WHAT IT READS IS OF BULK AT MOST 1048576: true; the input reads as it did. -/
def beladyChecksUptoRow : OpenClaim := { program := "ytbhfpofcebepiaa", sum := "606c9f057adfdabf8879af25ebf098cea901bf3e91f97002d0345f9ea192b532", func := "cubbyhole/cubbyholelaw36.BeladyChecks", spec := "beladyChecks", unfollowed := true, recurses := true, plainKeys := false, apart := false, narrowed := true }
def BeladyChecksUptoSaid : Prop := beladyChecksUptoRow.holds Try.pinned (OpenSpec.upto beladyChecksSpec)

/-- 'cubbyholelaw36.BeladyBest', WHERE WHAT IT READS IS OF BULK AT MOST 1048576: true; the input reads as it did. -/
def beladyBestUptoRow : OpenClaim := { program := "ytbhfpofcebepiaa", sum := "606c9f057adfdabf8879af25ebf098cea901bf3e91f97002d0345f9ea192b532", func := "cubbyhole/cubbyholelaw36.BeladyBest", spec := "beladyBest", unfollowed := true, recurses := true, plainKeys := false, apart := false, narrowed := true }
def BeladyBestUptoSaid : Prop := beladyBestUptoRow.holds Try.pinned (OpenSpec.upto beladyBestSpec)

/-- 'cubbyholelaw36.BeladyLongs', WHERE WHAT IT READS IS OF BULK AT MOST 1048576: true; the input reads as it did. -/
def beladyLongsUptoRow : OpenClaim := { program := "ytbhfpofcebepiaa", sum := "606c9f057adfdabf8879af25ebf098cea901bf3e91f97002d0345f9ea192b532", func := "cubbyhole/cubbyholelaw36.BeladyLongs", spec := "beladyLongs", unfollowed := true, recurses := true, plainKeys := false, apart := false, narrowed := true }
def BeladyLongsUptoSaid : Prop := beladyLongsUptoRow.holds Try.pinned (OpenSpec.upto beladyLongsSpec)

/-- 'cubbyholelaw36.BeladyHolds', WHERE WHAT IT READS IS OF BULK AT MOST 1048576: true; the input reads as it did. -/
def beladyHoldsUptoRow : OpenClaim := { program := "ytbhfpofcebepiaa", sum := "606c9f057adfdabf8879af25ebf098cea901bf3e91f97002d0345f9ea192b532", func := "cubbyhole/cubbyholelaw36.BeladyHolds", spec := "beladyHolds", unfollowed := true, recurses := true, plainKeys := false, apart := false, narrowed := true }
def BeladyHoldsUptoSaid : Prop := beladyHoldsUptoRow.holds Try.pinned (OpenSpec.upto beladyHoldsSpec)

end Rows
end Go.Proofs.Ytbhfpofcebepiaa
