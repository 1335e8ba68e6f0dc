import Derived.Test.YtcofejbkbcdopaaDoorR31
/- The law of ReportScores. -/
namespace Go.Proofs.YtcofejbkbcdopaaDoor
open Go.RowKit
theorem lawReportScores_walk (v : Value) (s : ByteArray) (many : Int) (W : World) (hv : ∃ L, ScsArg W v L) (hs : s.size ≤ maxLen) (wm : (Lit.int .i64 many).wf = true) (ht : EnvV W) :
    Calls Tryd.prog 4 #[v, .string s, .int .i64 many] W fun e W' => e = .returned (.bool true) ∧ Below W.heap.size W W' := by
  obtain ⟨L, a, c, rfl, hn, hc, hC, -⟩ := hv
  by_cases h : 20 < L.length ∨ 400 < s.size
  · exact scores_far a c L s many W h ht
  · exact scores_main a c L s many W (by omega) (by omega) hC ht
end Go.Proofs.YtcofejbkbcdopaaDoor
