
import Derived.Test.YtapngkjgagapeaaDoorE11
/- Contracts of the digits that the reference reads: digit and bytes. -/
namespace Go.Proofs.YtapngkjgagapeaaDoor
open Go.RowKit

def dgV (c : UInt8) : Int := if unhx c = 0 then 0 else (unhx c : Int) - 1
def dgB (c : UInt8) : Bool := decide (unhx c ≠ 0)
theorem dg_at (k : Nat) (h : k < 16) : dgV (hexD k) = k ∧ dgB (hexD k) = true := by
  unfold dgV dgB
  rw [unhx_hexD k h]
  simp
theorem dg_none (c : UInt8) (h : ∀ j, j < 16 → hexD j ≠ c) : dgV c = 0 ∧ dgB c = false := by
  have h0 : unhx c = 0 := by
    rcases Nat.eq_zero_or_pos (unhx c) with h0 | h0
    · exact h0
    · obtain ⟨h1, h2⟩ := hexD_unhx c (by omega)
      exact absurd h2 (h _ (by omega))
  unfold dgV dgB; simp [h0]

end Go.Proofs.YtapngkjgagapeaaDoor
