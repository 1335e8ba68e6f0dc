import Derived.Test.YtcofejbkbcdopaaGreatDoorR42
import Derived.Test.YtcofejbkbcdopaaGreatDoorR43O
/- The law of ReportTexts. -/
namespace Go.Proofs.YtcofejbkbcdopaaGreatDoor
open Go.RowKit
theorem lawReportTexts_walk (v : Value) (s : ByteArray) (W : World) (hv : RcArg v) (hs : s.size ≤ maxLen) (ht : EnvV W) :
    Calls Tryz.prog 3 #[v, .string s] W fun e W' => e = .returned (.bool true) ∧ Below W.heap.size W W' := by
  obtain ⟨f, rfl, hf⟩ := hv
  by_cases h : 400 < s.size
  · exact texts_far f s h W ht
  · exact texts_main f hf s (by omega) W ht
end Go.Proofs.YtcofejbkbcdopaaGreatDoor
