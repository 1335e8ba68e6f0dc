import Derived.Test.YtbhfpofcebepiaaB5
import Derived.Defers
/- Contract: the deferred store into the memo. -/
namespace Go.Proofs.Ytbhfpofcebepiaa
open Go.RowKit Go.ChangeMaps
set_option maxRecDepth 100000 in
set_option maxHeartbeats 4000000 in
theorem defer_any (N K S KB : Nat) (n a s : Int) (w : World) (es : Array MapEntry) (clock : Nat) (hN : w.cell? ⟨N, 0, none⟩ = some (.int .i64 n)) (hK : w.cell? ⟨K, 0, none⟩ = some (.map (some KB)))
    (h0 : w.cell? ⟨S, 0, none⟩ = some (.int .i64 a)) (h1 : w.cell? ⟨S, 1, none⟩ = some (.int .u16 s)) (hB : w.heap[KB]? = some (.map es clock)) (hk : KeysSt es.toList) :
    CallsD Try.prog 43 #[.pointer (some ⟨N, 0, none⟩), .pointer (some ⟨K, 0, none⟩), .pointer (some ⟨S, 0, none⟩)] .returning w fun e u' w' =>
      u' = .returning ∧ e = .returned (.tuple #[]) ∧ ∃ es' clock', w' = setBlock w KB (.map es' clock') ∧ KeysSt es'.toList ∧ ∀ e ∈ es'.toList, (e.key = (.agg #[.int .i64 a, .int .u16 s]) ∧ e.val = .int .i64 n) ∨ ∃ e0 ∈ es.toList, e0.key = e.key ∧ e0.val = e.val := by
  obtain ⟨es', clock', hrun, hk', hm⟩ := putSt hB hk a s (.int .i64 n)
  have hend : Box (∃ es2 clock2, setBlock w KB (.map es' clock') = setBlock w KB (.map es2 clock2) ∧ KeysSt es2.toList ∧ ∀ e ∈ es2.toList, (e.key = (.agg #[.int .i64 a, .int .u16 s]) ∧ e.val = .int .i64 n) ∨ ∃ e0 ∈ es.toList, e0.key = e.key ∧ e0.val = e.val) := ⟨es', clock', rfl, hk', hm⟩
  clear hB hk hk' hm
  go_enter_d Try.func43, Try.ntmps43
  go_wp2
  go_end0
  exact ⟨rfl, hend.out⟩
end Go.Proofs.Ytbhfpofcebepiaa
