import Derived.Test.YthlnhemdhlkhfaaDoorTM
import Derived.Test.YthlnhemdhlkhfaaDoorCUM
/- Plain laws of the numbers of workloads. -/
namespace Go.Proofs.YthlnhemdhlkhfaaDoor

/-- The number of a seed with an index. -/
def num (seed i : Nat) : Nat := (seed % 2147483646 + 1) * 48271 ^ (i + 1) % 2147483647
def pw (a n : Nat) : Nat := a ^ n % 2147483647
theorem num_lt (s i : Nat) : num s i < 2147483647 := Nat.mod_lt _ (by decide)
theorem pw_lt (a n : Nat) : pw a n < 2147483647 := Nat.mod_lt _ (by decide)
theorem pw_zero (a : Nat) : pw a 0 = 1 := by unfold pw; rw [Nat.pow_zero]
theorem mul_mod3 (a b m : Nat) : a % m * b % m = a * b % m := by rw [Nat.mul_mod, Nat.mod_mod, ← Nat.mul_mod]
theorem mul_mod4 (a b m : Nat) : a * (b % m) % m = a * b % m := by rw [Nat.mul_mod, Nat.mod_mod, ← Nat.mul_mod]
theorem pw_even (a n : Nat) (h : n % 2 = 0) : pw a n = pw a (n / 2) * pw a (n / 2) % 2147483647 := by
  unfold pw
  rw [← Nat.mul_mod, ← Nat.pow_add]
  congr 2; omega
theorem pw_odd (a n : Nat) (h : n % 2 = 1) : pw a n = (pw a (n / 2) * pw a (n / 2) % 2147483647) * a % 2147483647 := by
  unfold pw
  rw [← Nat.mul_mod, ← Nat.pow_add, mul_mod3, ← Nat.pow_succ]
  congr 2; omega
theorem num_pw (s i : Nat) : num s i = (s % 2147483646 + 1) * pw 48271 (i + 1) % 2147483647 := by
  unfold num pw; rw [mul_mod4]
theorem num_zero (s : Nat) : num s 0 = (s % 2147483646 + 1) * 48271 % 2147483647 := by
  unfold num; rw [Nat.zero_add, Nat.pow_one]
theorem num_succ (s i : Nat) : num s (i + 1) = num s i * 48271 % 2147483647 := by
  unfold num
  rw [mul_mod3, Nat.mul_assoc, ← Nat.pow_succ]
/-- The invariant of Number's loop: x, f, n. -/
def InvN (s i x f n : Nat) : Prop := x < 2147483647 ∧ f < 2147483647 ∧ x * f ^ n % 2147483647 = num s i
theorem inv_start (s i : Nat) : InvN s i (num s 0) 48271 i := by
  refine ⟨num_lt _ _, by decide, ?_⟩
  rw [num_zero, mul_mod3, Nat.mul_assoc, ← Nat.pow_succ']
  rfl
theorem sq_pow (f n : Nat) : (f * f % 2147483647) ^ n % 2147483647 = f ^ (2 * n) % 2147483647 := by
  rw [← Nat.pow_mod, Nat.mul_pow, ← Nat.pow_add]
  congr 2; omega
theorem inv_even {s i x f n : Nat} (h : InvN s i x f n) (hn : n % 2 = 0) : InvN s i x (f * f % 2147483647) (n / 2) := by
  refine ⟨h.1, Nat.mod_lt _ (by decide), ?_⟩
  rw [← mul_mod4, sq_pow, mul_mod4, show 2 * (n / 2) = n by omega]
  exact h.2.2
theorem inv_odd {s i x f n : Nat} (h : InvN s i x f n) (hn : n % 2 = 1) : InvN s i (x * f % 2147483647) (f * f % 2147483647) (n / 2) := by
  refine ⟨Nat.mod_lt _ (by decide), Nat.mod_lt _ (by decide), ?_⟩
  rw [mul_mod3, ← mul_mod4, sq_pow, mul_mod4, Nat.mul_assoc, ← Nat.pow_succ', show (2 * (n / 2)).succ = n by omega]
  exact h.2.2
theorem inv_end {s i x f : Nat} (h : InvN s i x f 0) : x = num s i := by
  have := h.2.2
  rw [Nat.pow_zero, Nat.mul_one, Nat.mod_eq_of_lt h.1] at this
  exact this
end Go.Proofs.YthlnhemdhlkhfaaDoor
