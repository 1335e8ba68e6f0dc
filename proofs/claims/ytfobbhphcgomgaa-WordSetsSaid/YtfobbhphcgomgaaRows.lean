/-
  No cell of these rows narrows 'for every input' (looked for: loops, veiled, ifaces, maps, wideKeys, modest, calm, conditions, laid).
  DERIVED. THE GIVEN ROWS OF THIS SEAT. 5 by the template 'for every input the law returns true; each argument reads behind the call as it read before'; 0 by the template 'total and deterministic' (their statements: YtfobbhphcgomgaaTotals.lean).
  GIVEN WITH THE SEED: the statements are not yours to turn. If you find one false, say at which input.
  Laid BY PROGRAM, IN A SANDBOX (cutbox-rows.mjs): the forced cells as the released guide's own fill.sh prints them over the translation f1d8a3ec12190275… (all of the seat's roots in one cut). By AI agents, Wed Nov 11 2026. No macro, syntax, notation, axiom, sorry.
-/
import Derived.Test.YtfobbhphcgomgaaChecked
import GoSem.Claim
import GoSem.ClaimJoined
import GoSem.ClaimMapViews
import Derived.JoinedTies
import Derived.KernelRfl
namespace Go.Proofs.Ytfobbhphcgomgaa
/- THE CELL 'sum', in the pinned program and in every row, IS THE sha256 OF THE DUMP (.gsa) THAT YtfobbhphcgomgaaProg.lean LOADS. Nothing in Lean hashes anything: it is a label: what it is worth is what the hold of that sum in a sandbox is worth. -/
noncomputable def Try.pinned : Pinned := { name := "ytfobbhphcgomgaa", sum := "f1d8a3ec1219027532a64d5996aaffa96dbbf8d644f69dc8fc6cd156ce35c848", checked := Try.checked }
namespace Rows
def none {H : Type} : Left H := { results := [], args := [] }

/-- 'cubbyholelaw01.WordLanes': WHATEVER THE INPUT: true; the input reads as it did. -/
def wordLanesSpec : ChangeSpec := { name := "wordLanes", fn := fun _ => fun
  | [d1, d2, d3] => { results := [.lit (.bool true)], args := [d1, d2, d3] }
  | _ => none }
def wordLanesRow : OpenClaim := { program := "ytfobbhphcgomgaa", sum := "f1d8a3ec1219027532a64d5996aaffa96dbbf8d644f69dc8fc6cd156ce35c848", func := "cubbyhole/cubbyholelaw01.WordLanes", spec := "wordLanes", unfollowed := true, recurses := true, apart := false }
def WordLanesSaid : Prop := wordLanesRow.holds Try.pinned (OpenSpec.ofChange wordLanesSpec)

/-- ITS FALSE NEIGHBOUR: 'it returns false'. Refute it at one input. -/
def wordLanesWrong : ChangeSpec := { name := "wordLanes", fn := fun _ => fun
  | [d1, d2, d3] => { results := [.lit (.bool false)], args := [d1, d2, d3] }
  | _ => none }
def WordLanesWrongFalsely : Prop := wordLanesRow.holds Try.pinned (OpenSpec.ofChange wordLanesWrong)

/-- 'cubbyholelaw01.WordMatches': WHATEVER THE INPUT: true; the input reads as it did. -/
def wordMatchesSpec : ChangeSpec := { name := "wordMatches", fn := fun _ => fun
  | [d1, d2] => { results := [.lit (.bool true)], args := [d1, d2] }
  | _ => none }
def wordMatchesRow : OpenClaim := { program := "ytfobbhphcgomgaa", sum := "f1d8a3ec1219027532a64d5996aaffa96dbbf8d644f69dc8fc6cd156ce35c848", func := "cubbyhole/cubbyholelaw01.WordMatches", spec := "wordMatches", unfollowed := true, recurses := true, apart := false }
def WordMatchesSaid : Prop := wordMatchesRow.holds Try.pinned (OpenSpec.ofChange wordMatchesSpec)

/-- ITS FALSE NEIGHBOUR: 'it returns false'. Refute it at one input. -/
def wordMatchesWrong : ChangeSpec := { name := "wordMatches", fn := fun _ => fun
  | [d1, d2] => { results := [.lit (.bool false)], args := [d1, d2] }
  | _ => none }
def WordMatchesWrongFalsely : Prop := wordMatchesRow.holds Try.pinned (OpenSpec.ofChange wordMatchesWrong)

/-- 'cubbyholelaw01.WordSets': WHATEVER THE INPUT: true; the input reads as it did. -/
def wordSetsSpec : ChangeSpec := { name := "wordSets", fn := fun _ => fun
  | [d1, d2] => { results := [.lit (.bool true)], args := [d1, d2] }
  | _ => none }
def wordSetsRow : OpenClaim := { program := "ytfobbhphcgomgaa", sum := "f1d8a3ec1219027532a64d5996aaffa96dbbf8d644f69dc8fc6cd156ce35c848", func := "cubbyhole/cubbyholelaw01.WordSets", spec := "wordSets", unfollowed := true, recurses := true, apart := false }
def WordSetsSaid : Prop := wordSetsRow.holds Try.pinned (OpenSpec.ofChange wordSetsSpec)

/-- ITS FALSE NEIGHBOUR: 'it returns false'. Refute it at one input. -/
def wordSetsWrong : ChangeSpec := { name := "wordSets", fn := fun _ => fun
  | [d1, d2] => { results := [.lit (.bool false)], args := [d1, d2] }
  | _ => none }
def WordSetsWrongFalsely : Prop := wordSetsRow.holds Try.pinned (OpenSpec.ofChange wordSetsWrong)

/-- 'cubbyholelaw01.WordLoads': WHATEVER THE INPUT: true; the input reads as it did. -/
def wordLoadsSpec : ChangeSpec := { name := "wordLoads", fn := fun _ => fun
  | [d1, d2, d3] => { results := [.lit (.bool true)], args := [d1, d2, d3] }
  | _ => none }
def wordLoadsRow : OpenClaim := { program := "ytfobbhphcgomgaa", sum := "f1d8a3ec1219027532a64d5996aaffa96dbbf8d644f69dc8fc6cd156ce35c848", func := "cubbyhole/cubbyholelaw01.WordLoads", spec := "wordLoads", unfollowed := true, recurses := true, apart := false }
def WordLoadsSaid : Prop := wordLoadsRow.holds Try.pinned (OpenSpec.ofChange wordLoadsSpec)

/-- ITS FALSE NEIGHBOUR: 'it returns false'. Refute it at one input. -/
def wordLoadsWrong : ChangeSpec := { name := "wordLoads", fn := fun _ => fun
  | [d1, d2, d3] => { results := [.lit (.bool false)], args := [d1, d2, d3] }
  | _ => none }
def WordLoadsWrongFalsely : Prop := wordLoadsRow.holds Try.pinned (OpenSpec.ofChange wordLoadsWrong)

/-- 'cubbyholelaw01.WordHolds': WHATEVER THE INPUT: true; the input reads as it did. -/
def wordHoldsSpec : ChangeSpec := { name := "wordHolds", fn := fun _ => fun
  | [d] => { results := [.lit (.bool true)], args := [d] }
  | _ => none }
def wordHoldsRow : OpenClaim := { program := "ytfobbhphcgomgaa", sum := "f1d8a3ec1219027532a64d5996aaffa96dbbf8d644f69dc8fc6cd156ce35c848", func := "cubbyhole/cubbyholelaw01.WordHolds", spec := "wordHolds", unfollowed := true, recurses := true, apart := false }
def WordHoldsSaid : Prop := wordHoldsRow.holds Try.pinned (OpenSpec.ofChange wordHoldsSpec)

/-- ITS FALSE NEIGHBOUR: 'it returns false'. Refute it at one input. -/
def wordHoldsWrong : ChangeSpec := { name := "wordHolds", fn := fun _ => fun
  | [d] => { results := [.lit (.bool false)], args := [d] }
  | _ => none }
def WordHoldsWrongFalsely : Prop := wordHoldsRow.holds Try.pinned (OpenSpec.ofChange wordHoldsWrong)

/- THE SECOND FORM. 'bulk': how many values and letters a reading holds, each counted each time it is reached (what is shared counts as often as it is met; a slice's spare places count too). A statement '..UptoSaid' is the law's where the arguments, and the package variables that the reading takes, are together of bulk at most 1048576: NARROWER than '..Said'. Prove '..Said' where nothing that the law and all that it calls make is longer than what came in: it says more and counts as full. Else prove '..UptoSaid'. A law counts once. -/
mutual
def uptoBulk {H : Type} : DataW H → Nat
  | .lit (.string bytes) => bytes.length + 1
  | .lit _ => 1
  | .nil => 1
  | .ptr d => uptoBulk d + 1
  | .slice elems spare => uptoBulkAll elems + uptoBulkAll spare + 1
  | .agg parts => uptoBulkAll parts + 1
  | .iface _ d => uptoBulk d + 1
  | .map entries => uptoBulkEntries entries + 1
  | .held _ => 1
def uptoBulkAll {H : Type} : List (DataW H) → Nat
  | [] => 0
  | d :: r => uptoBulk d + uptoBulkAll r
def uptoBulkEntries {H : Type} : List (Lit × DataW H) → Nat
  | [] => 0
  | x :: r => uptoBulkEntry x + uptoBulkEntries r
def uptoBulkEntry {H : Type} : Lit × DataW H → Nat
  | (.string bytes, d) => bytes.length + uptoBulk d + 1
  | (_, d) => uptoBulk d + 1
 end
def uptoSmall : (H : Type) → List (DataW H) → Bool := fun _ ds => decide (uptoBulkAll ds ≤ 1048576)
def OpenSpec.upto (s : _root_.Go.ChangeSpec) : _root_.Go.OpenSpec := { _root_.Go.OpenSpec.ofChange s with cond := some uptoSmall }

/-- 'cubbyholelaw01.WordLanes', WHERE WHAT IT READS IS OF BULK AT MOST 1048576: true; the input reads as it did. -/
def wordLanesUptoRow : OpenClaim := { program := "ytfobbhphcgomgaa", sum := "f1d8a3ec1219027532a64d5996aaffa96dbbf8d644f69dc8fc6cd156ce35c848", func := "cubbyhole/cubbyholelaw01.WordLanes", spec := "wordLanes", unfollowed := true, recurses := true, apart := false, narrowed := true }
def WordLanesUptoSaid : Prop := wordLanesUptoRow.holds Try.pinned (OpenSpec.upto wordLanesSpec)

/-- 'cubbyholelaw01.WordMatches', WHERE WHAT IT READS IS OF BULK AT MOST 1048576: true; the input reads as it did. -/
def wordMatchesUptoRow : OpenClaim := { program := "ytfobbhphcgomgaa", sum := "f1d8a3ec1219027532a64d5996aaffa96dbbf8d644f69dc8fc6cd156ce35c848", func := "cubbyhole/cubbyholelaw01.WordMatches", spec := "wordMatches", unfollowed := true, recurses := true, apart := false, narrowed := true }
def WordMatchesUptoSaid : Prop := wordMatchesUptoRow.holds Try.pinned (OpenSpec.upto wordMatchesSpec)

/-- 'cubbyholelaw01.WordSets', WHERE WHAT IT READS IS OF BULK AT MOST 1048576: true; the input reads as it did. -/
def wordSetsUptoRow : OpenClaim := { program := "ytfobbhphcgomgaa", sum := "f1d8a3ec1219027532a64d5996aaffa96dbbf8d644f69dc8fc6cd156ce35c848", func := "cubbyhole/cubbyholelaw01.WordSets", spec := "wordSets", unfollowed := true, recurses := true, apart := false, narrowed := true }
def WordSetsUptoSaid : Prop := wordSetsUptoRow.holds Try.pinned (OpenSpec.upto wordSetsSpec)

/-- 'cubbyholelaw01.WordLoads', WHERE WHAT IT READS IS OF BULK AT MOST 1048576: true; the input reads as it did. -/
def wordLoadsUptoRow : OpenClaim := { program := "ytfobbhphcgomgaa", sum := "f1d8a3ec1219027532a64d5996aaffa96dbbf8d644f69dc8fc6cd156ce35c848", func := "cubbyhole/cubbyholelaw01.WordLoads", spec := "wordLoads", unfollowed := true, recurses := true, apart := false, narrowed := true }
def WordLoadsUptoSaid : Prop := wordLoadsUptoRow.holds Try.pinned (OpenSpec.upto wordLoadsSpec)

/-- 'cubbyholelaw01.WordHolds', WHERE WHAT IT READS IS OF BULK AT MOST 1048576: true; the input reads as it did. -/
def wordHoldsUptoRow : OpenClaim := { program := "ytfobbhphcgomgaa", sum := "f1d8a3ec1219027532a64d5996aaffa96dbbf8d644f69dc8fc6cd156ce35c848", func := "cubbyhole/cubbyholelaw01.WordHolds", spec := "wordHolds", unfollowed := true, recurses := true, apart := false, narrowed := true }
def WordHoldsUptoSaid : Prop := wordHoldsUptoRow.holds Try.pinned (OpenSpec.upto wordHoldsSpec)

end Rows
end Go.Proofs.Ytfobbhphcgomgaa
