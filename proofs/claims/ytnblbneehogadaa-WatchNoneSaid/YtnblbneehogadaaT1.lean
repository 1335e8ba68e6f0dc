
import Derived.Test.YtnblbneehogadaaLib
import Derived.Test.YtnblbneehogadaaWM
import Derived.Test.YtnblbneehogadaaTM
/- Contracts of package tick and of its reference: sums, dues, digits. -/
namespace Go.Proofs.Ytnblbneehogadaa
open Go.RowKit

def addN (t k : Nat) : Nat := if never - t ≤ k then never else t + k
def leftN (d n : Nat) : Nat := if d = never then never else if d ≤ n then 0 else d - n
def dueB (d n : Nat) : Bool := decide (d ≠ never) && decide (d ≤ n)
theorem addN_lt (t k : Nat) (ht : t ≤ never) : addN t k ≤ never := by unfold addN; split <;> omega
theorem leftN_lt (d n : Nat) (hd : d ≤ never) : leftN d n ≤ never := by unfold leftN; (repeat' split) <;> omega

set_option maxHeartbeats 400000 in
theorem due_any (d n : Nat) (w : World) (hd : d < 18446744073709551616) (hn : n < 18446744073709551616) :
    Calls Try.prog 53 #[.int .u64 d, .int .u64 n] w fun e w' => e = .returned (.bool (dueB d n)) ∧ w = w' := by
  unfold dueB never
  by_cases h : d = 18446744073709551615
  · subst h
    go_enter Try.func53, Try.ntmps53
    go_wp2
    go_ret
    exact ⟨rfl, rfl⟩
  · have h' : ((d : Int) != 18446744073709551615) = true := by simp; omega
    go_enter Try.func53, Try.ntmps53
    go_wp2
    go_ret
    exact ⟨ret_bool (by rw [Bool.eq_iff_iff]; simp; omega), rfl⟩

theorem lt8_nat' (i : Nat) (h1 : i < 8) : i = 0 ∨ i = 1 ∨ i = 2 ∨ i = 3 ∨ i = 4 ∨ i = 5 ∨ i = 6 ∨ i = 7 := by omega
/-- The answer of Digit. -/
def digV (t : Nat) (l : Int) : Nat := if l < 0 ∨ 7 < l then 0 else WM.lane t l.toNat
def digE (l : Int) : Int := if l < 0 ∨ 7 < l then 3 else 0

end Go.Proofs.Ytnblbneehogadaa
