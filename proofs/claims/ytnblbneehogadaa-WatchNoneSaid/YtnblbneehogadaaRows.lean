/-
  No cell of these rows narrows 'for every input' (looked for: loops, veiled, ifaces, maps, wideKeys, modest, calm, conditions, laid).
  DERIVED. THE GIVEN ROWS OF THIS SEAT. 5 by the template 'for every input the law returns true; each argument reads behind the call as it read before'; 0 by the template 'total and deterministic' (their statements: YtnblbneehogadaaTotals.lean).
  GIVEN WITH THE SEED: the statements are not yours to turn. If you find one false, say at which input.
  Laid BY PROGRAM, IN A SANDBOX (cutbox-rows.mjs): the forced cells as the released guide's own fill.sh prints them over the translation 374b7764ee3d4f1e… (all of the seat's roots in one cut). By AI agents, Wed Nov 11 2026. No macro, syntax, notation, axiom, sorry.
-/
import Derived.Test.YtnblbneehogadaaChecked
import GoSem.Claim
import GoSem.ClaimJoined
import GoSem.ClaimMapViews
import Derived.JoinedTies
import Derived.KernelRfl
namespace Go.Proofs.Ytnblbneehogadaa
/- THE CELL 'sum', in the pinned program and in every row, IS THE sha256 OF THE DUMP (.gsa) THAT YtnblbneehogadaaProg.lean LOADS. Nothing in Lean hashes anything: it is a label: what it is worth is what the hold of that sum in a sandbox is worth. -/
noncomputable def Try.pinned : Pinned := { name := "ytnblbneehogadaa", sum := "374b7764ee3d4f1e1a311fa9f8d2fcab9148f15912a4b6e5cc341f8bbb876f9b", checked := Try.checked }
namespace Rows
def none {H : Type} : Left H := { results := [], args := [] }

/-- 'cubbyholelaw44.WatchFits': WHATEVER THE INPUT: true; the input reads as it did. -/
def watchFitsSpec : ChangeSpec := { name := "watchFits", fn := fun _ => fun
  | [d1, d2] => { results := [.lit (.bool true)], args := [d1, d2] }
  | _ => none }
def watchFitsRow : OpenClaim := { program := "ytnblbneehogadaa", sum := "374b7764ee3d4f1e1a311fa9f8d2fcab9148f15912a4b6e5cc341f8bbb876f9b", func := "cubbyhole/cubbyholelaw44.WatchFits", spec := "watchFits", unfollowed := true, recurses := true, apart := false }
def WatchFitsSaid : Prop := watchFitsRow.holds Try.pinned (OpenSpec.ofChange watchFitsSpec)

/-- ITS FALSE NEIGHBOUR: 'it returns false'. Refute it at one input. -/
def watchFitsWrong : ChangeSpec := { name := "watchFits", fn := fun _ => fun
  | [d1, d2] => { results := [.lit (.bool false)], args := [d1, d2] }
  | _ => none }
def WatchFitsWrongFalsely : Prop := watchFitsRow.holds Try.pinned (OpenSpec.ofChange watchFitsWrong)

/-- 'cubbyholelaw44.WatchFulls': WHATEVER THE INPUT: true; the input reads as it did. -/
def watchFullsSpec : ChangeSpec := { name := "watchFulls", fn := fun _ => fun
  | [d1, d2, d3] => { results := [.lit (.bool true)], args := [d1, d2, d3] }
  | _ => none }
def watchFullsRow : OpenClaim := { program := "ytnblbneehogadaa", sum := "374b7764ee3d4f1e1a311fa9f8d2fcab9148f15912a4b6e5cc341f8bbb876f9b", func := "cubbyhole/cubbyholelaw44.WatchFulls", spec := "watchFulls", unfollowed := true, recurses := true, apart := false }
def WatchFullsSaid : Prop := watchFullsRow.holds Try.pinned (OpenSpec.ofChange watchFullsSpec)

/-- ITS FALSE NEIGHBOUR: 'it returns false'. Refute it at one input. -/
def watchFullsWrong : ChangeSpec := { name := "watchFulls", fn := fun _ => fun
  | [d1, d2, d3] => { results := [.lit (.bool false)], args := [d1, d2, d3] }
  | _ => none }
def WatchFullsWrongFalsely : Prop := watchFullsRow.holds Try.pinned (OpenSpec.ofChange watchFullsWrong)

/-- 'cubbyholelaw44.WatchHolds': WHATEVER THE INPUT: true; the input reads as it did. -/
def watchHoldsSpec : ChangeSpec := { name := "watchHolds", fn := fun _ => fun
  | [d1, d2, d3] => { results := [.lit (.bool true)], args := [d1, d2, d3] }
  | _ => none }
def watchHoldsRow : OpenClaim := { program := "ytnblbneehogadaa", sum := "374b7764ee3d4f1e1a311fa9f8d2fcab9148f15912a4b6e5cc341f8bbb876f9b", func := "cubbyhole/cubbyholelaw44.WatchHolds", spec := "watchHolds", unfollowed := true, recurses := true, apart := false }
def WatchHoldsSaid : Prop := watchHoldsRow.holds Try.pinned (OpenSpec.ofChange watchHoldsSpec)

/-- ITS FALSE NEIGHBOUR: 'it returns false'. Refute it at one input. -/
def watchHoldsWrong : ChangeSpec := { name := "watchHolds", fn := fun _ => fun
  | [d1, d2, d3] => { results := [.lit (.bool false)], args := [d1, d2, d3] }
  | _ => none }
def WatchHoldsWrongFalsely : Prop := watchHoldsRow.holds Try.pinned (OpenSpec.ofChange watchHoldsWrong)

/-- 'cubbyholelaw44.WatchPlays': WHATEVER THE INPUT: true; the input reads as it did. -/
def watchPlaysSpec : ChangeSpec := { name := "watchPlays", fn := fun _ => fun
  | [d] => { results := [.lit (.bool true)], args := [d] }
  | _ => none }
def watchPlaysRow : OpenClaim := { program := "ytnblbneehogadaa", sum := "374b7764ee3d4f1e1a311fa9f8d2fcab9148f15912a4b6e5cc341f8bbb876f9b", func := "cubbyhole/cubbyholelaw44.WatchPlays", spec := "watchPlays", unfollowed := true, recurses := true, apart := false }
def WatchPlaysSaid : Prop := watchPlaysRow.holds Try.pinned (OpenSpec.ofChange watchPlaysSpec)

/-- ITS FALSE NEIGHBOUR: 'it returns false'. Refute it at one input. -/
def watchPlaysWrong : ChangeSpec := { name := "watchPlays", fn := fun _ => fun
  | [d] => { results := [.lit (.bool false)], args := [d] }
  | _ => none }
def WatchPlaysWrongFalsely : Prop := watchPlaysRow.holds Try.pinned (OpenSpec.ofChange watchPlaysWrong)

/-- 'cubbyholelaw44.WatchNone': WHATEVER THE INPUT: true; the input reads as it did. -/
def watchNoneSpec : ChangeSpec := { name := "watchNone", fn := fun _ => fun
  | [d] => { results := [.lit (.bool true)], args := [d] }
  | _ => none }
def watchNoneRow : OpenClaim := { program := "ytnblbneehogadaa", sum := "374b7764ee3d4f1e1a311fa9f8d2fcab9148f15912a4b6e5cc341f8bbb876f9b", func := "cubbyhole/cubbyholelaw44.WatchNone", spec := "watchNone", unfollowed := true, recurses := true, apart := false }
def WatchNoneSaid : Prop := watchNoneRow.holds Try.pinned (OpenSpec.ofChange watchNoneSpec)

/-- ITS FALSE NEIGHBOUR: 'it returns false'. Refute it at one input. -/
def watchNoneWrong : ChangeSpec := { name := "watchNone", fn := fun _ => fun
  | [d] => { results := [.lit (.bool false)], args := [d] }
  | _ => none }
def WatchNoneWrongFalsely : Prop := watchNoneRow.holds Try.pinned (OpenSpec.ofChange watchNoneWrong)

/- THE SECOND FORM. 'bulk': how many values and letters a reading holds, each counted each time it is reached (what is shared counts as often as it is met; a slice's spare places count too). A statement '..UptoSaid' is the law's where the arguments, and the package variables that the reading takes, are together of bulk at most 1048576: NARROWER than '..Said'. Prove '..Said' where nothing that the law and all that it calls make is longer than what came in: it says more and counts as full. Else prove '..UptoSaid'. A law counts once. -/
mutual
def uptoBulk {H : Type} : DataW H → Nat
  | .lit (.string bytes) => bytes.length + 1
  | .lit _ => 1
  | .nil => 1
  | .ptr d => uptoBulk d + 1
  | .slice elems spare => uptoBulkAll elems + uptoBulkAll spare + 1
  | .agg parts => uptoBulkAll parts + 1
  | .iface _ d => uptoBulk d + 1
  | .map entries => uptoBulkEntries entries + 1
  | .held _ => 1
def uptoBulkAll {H : Type} : List (DataW H) → Nat
  | [] => 0
  | d :: r => uptoBulk d + uptoBulkAll r
def uptoBulkEntries {H : Type} : List (Lit × DataW H) → Nat
  | [] => 0
  | x :: r => uptoBulkEntry x + uptoBulkEntries r
def uptoBulkEntry {H : Type} : Lit × DataW H → Nat
  | (.string bytes, d) => bytes.length + uptoBulk d + 1
  | (_, d) => uptoBulk d + 1
 end
def uptoSmall : (H : Type) → List (DataW H) → Bool := fun _ ds => decide (uptoBulkAll ds ≤ 1048576)
def OpenSpec.upto (s : _root_.Go.ChangeSpec) : _root_.Go.OpenSpec := { _root_.Go.OpenSpec.ofChange s with cond := some uptoSmall }

/-- 'cubbyholelaw44.WatchFits', WHERE WHAT IT READS IS OF BULK AT MOST 1048576: true; the input reads as it did. -/
def watchFitsUptoRow : OpenClaim := { program := "ytnblbneehogadaa", sum := "374b7764ee3d4f1e1a311fa9f8d2fcab9148f15912a4b6e5cc341f8bbb876f9b", func := "cubbyhole/cubbyholelaw44.WatchFits", spec := "watchFits", unfollowed := true, recurses := true, apart := false, narrowed := true }
def WatchFitsUptoSaid : Prop := watchFitsUptoRow.holds Try.pinned (OpenSpec.upto watchFitsSpec)

/-- 'cubbyholelaw44.WatchFulls', WHERE WHAT IT READS IS OF BULK AT MOST 1048576: true; the input reads as it did. -/
def watchFullsUptoRow : OpenClaim := { program := "ytnblbneehogadaa", sum := "374b7764ee3d4f1e1a311fa9f8d2fcab9148f15912a4b6e5cc341f8bbb876f9b", func := "cubbyhole/cubbyholelaw44.WatchFulls", spec := "watchFulls", unfollowed := true, recurses := true, apart := false, narrowed := true }
def WatchFullsUptoSaid : Prop := watchFullsUptoRow.holds Try.pinned (OpenSpec.upto watchFullsSpec)

/-- 'cubbyholelaw44.WatchHolds', WHERE WHAT IT READS IS OF BULK AT MOST 1048576: true; the input reads as it did. -/
def watchHoldsUptoRow : OpenClaim := { program := "ytnblbneehogadaa", sum := "374b7764ee3d4f1e1a311fa9f8d2fcab9148f15912a4b6e5cc341f8bbb876f9b", func := "cubbyhole/cubbyholelaw44.WatchHolds", spec := "watchHolds", unfollowed := true, recurses := true, apart := false, narrowed := true }
def WatchHoldsUptoSaid : Prop := watchHoldsUptoRow.holds Try.pinned (OpenSpec.upto watchHoldsSpec)

/-- 'cubbyholelaw44.WatchPlays', WHERE WHAT IT READS IS OF BULK AT MOST 1048576: true; the input reads as it did. -/
def watchPlaysUptoRow : OpenClaim := { program := "ytnblbneehogadaa", sum := "374b7764ee3d4f1e1a311fa9f8d2fcab9148f15912a4b6e5cc341f8bbb876f9b", func := "cubbyhole/cubbyholelaw44.WatchPlays", spec := "watchPlays", unfollowed := true, recurses := true, apart := false, narrowed := true }
def WatchPlaysUptoSaid : Prop := watchPlaysUptoRow.holds Try.pinned (OpenSpec.upto watchPlaysSpec)

/-- 'cubbyholelaw44.WatchNone', WHERE WHAT IT READS IS OF BULK AT MOST 1048576: true; the input reads as it did. -/
def watchNoneUptoRow : OpenClaim := { program := "ytnblbneehogadaa", sum := "374b7764ee3d4f1e1a311fa9f8d2fcab9148f15912a4b6e5cc341f8bbb876f9b", func := "cubbyhole/cubbyholelaw44.WatchNone", spec := "watchNone", unfollowed := true, recurses := true, apart := false, narrowed := true }
def WatchNoneUptoSaid : Prop := watchNoneUptoRow.holds Try.pinned (OpenSpec.upto watchNoneSpec)

end Rows
end Go.Proofs.Ytnblbneehogadaa
