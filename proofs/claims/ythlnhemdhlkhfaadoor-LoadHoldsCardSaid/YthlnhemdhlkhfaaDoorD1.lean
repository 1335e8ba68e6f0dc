import Derived.Test.YthlnhemdhlkhfaaDoorLib
import Derived.Test.YthlnhemdhlkhfaaDoorDM
import Derived.Laws.BitsAllLaws
import Derived.IntWalk
/- Contracts of the numbers of workloads. -/
namespace Go.Proofs.YthlnhemdhlkhfaaDoor
open Go.RowKit

set_option maxHeartbeats 1000000 in
theorem start_any (s : Nat) (w : World) (hs : s < 18446744073709551616) : Calls Tryd.prog 23 #[.int .u64 s] w fun e w' => e = .returned (.int .u64 (num s 0)) ∧ w = w' := by
  rw [num_zero]
  obtain ⟨r, hr⟩ : ∃ r, r = s % 2147483646 := ⟨_, rfl⟩
  have h0 : (s : Int).tmod 2147483646 = r := by rw [Int.tmod_eq_emod_of_nonneg (by omega)]; omega
  have h1 : (s : Int) % 2147483646 = r := by omega
  have h2 : r < 2147483646 := by rw [hr]; exact Nat.mod_lt _ (by decide)
  rw [← hr]
  have h3 : ((r : Int) + 1) * 48271 < 18446744073709551616 := by omega
  have h4 : 0 ≤ ((r : Int) + 1) * 48271 := by omega
  clear hr hs
  go_enter Tryd.func23, Tryd.ntmps23
  go_wp2
  go_ret
  exact ⟨ret_int (by omega), rfl⟩

theorem mul_fact (a b : Nat) (ha : a < 2147483647) (hb : b < 2147483647) : ∃ r : Nat, r = a * b % 2147483647 ∧ IntKind.u64.wrap ((a : Int) * (b : Int)) = (a : Int) * (b : Int) ∧ ((a : Int) * (b : Int)).tmod 2147483647 = (r : Int) := by
  have h1 : a * b ≤ 2147483647 * 2147483647 := Nat.mul_le_mul (Nat.le_of_lt ha) (Nat.le_of_lt hb)
  have e : (a : Int) * (b : Int) = ((a * b : Nat) : Int) := by rw [Int.natCast_mul]
  refine ⟨_, rfl, ?_, ?_⟩
  · rw [e, IntKind.wrap_u64]; omega
  · rw [e, Int.tmod_eq_emod_of_nonneg (by omega)]; omega
theorem sq_fact (a : Nat) (ha : a < 2147483647) : ∃ r : Nat, r = a * a % 2147483647 ∧ IntKind.u64.wrap ((a : Int) * (a : Int)) = (a : Int) * (a : Int) ∧ ((a : Int) * (a : Int)).tmod 2147483647 = (r : Int) := mul_fact a a ha ha
set_option maxHeartbeats 2000000 in
theorem power_k (k : Nat) : ∀ (a n : Nat) (w : World), n < 2 ^ k → n < 18446744073709551616 → a < 2147483647 → Calls Tryd.prog 24 #[.int .u64 a, .int .u64 n] w fun e w' => e = .returned (.int .u64 (pw a n)) ∧ w = w' := by
  induction k with
  | zero => 
    intro a n w hn hn64 ha
    obtain rfl : n = 0 := by omega
    rw [pw_zero]
    go_enter Tryd.func24, Tryd.ntmps24
    go_wp2
    go_ret
    exact ⟨rfl, rfl⟩
  | succ k ih =>
    intro a n w hn hn64 ha
    by_cases h0 : n = 0
    · subst h0
      rw [pw_zero]
      go_enter Tryd.func24, Tryd.ntmps24
      go_wp2
      go_ret
      exact ⟨rfl, rfl⟩
    · have e0 : ((n : Int) == 0) = false := by rw [beq_eq_false_iff_ne]; omega
      have c1 : Box _ := ⟨fun w => ih a (n / 2) w (by rw [Nat.pow_succ] at hn; omega) (by omega) ha⟩
      simp only [Int.natCast_ediv, Int.cast_ofNat_Int] at c1
      have hp := pw_lt a (n / 2)
      have hm := Nat.mul_le_mul (Nat.le_of_lt hp) (Nat.le_of_lt hp)
      obtain ⟨h, hh⟩ : ∃ h, h = pw a (n / 2) := ⟨_, rfl⟩
      rw [← hh] at c1 hp hm
      have s1 := sq_fact h hp
      obtain ⟨q, q0, q1, q2⟩ := s1
      have q3 : q < 2147483647 := by rw [q0]; exact Nat.mod_lt _ (by decide)
      obtain ⟨r, r0, r1, r2⟩ := mul_fact q a q3 ha
      by_cases h2 : n % 2 = 1
      · have e1 : ((n : Int).tmod 2 == 1) = true := by rw [Int.tmod_eq_emod_of_nonneg (by omega)]; simp; omega
        have e2 : ((n : Int) % 2 == 1) = true := by simp; omega
        have hr : pw a n = r := by rw [pw_odd a n h2, ← hh, ← q0, ← r0]
        rw [hr]
        clear ih hn hh hm q0 r0 hr h0 h2
        go_enter Tryd.func24, Tryd.ntmps24
        go_wp2_with (first | (go_at_call 24; (with_reducible refine (c1.out _).mono ?_); rintro e w' ⟨rfl, rfl⟩))
        go_ret
        exact ⟨rfl, rfl⟩
      · have e1 : ((n : Int).tmod 2 == 1) = false := by rw [Int.tmod_eq_emod_of_nonneg (by omega)]; simp; omega
        have e2 : ((n : Int) % 2 == 1) = false := by simp; omega
        have hr : pw a n = q := by rw [pw_even a n (by omega), ← hh, ← q0]
        rw [hr]
        clear ih hn hh hm q0 r0 hr h0 h2
        go_enter Tryd.func24, Tryd.ntmps24
        go_wp2_with (first | (go_at_call 24; (with_reducible refine (c1.out _).mono ?_); rintro e w' ⟨rfl, rfl⟩))
        go_ret
        exact ⟨rfl, rfl⟩
theorem power_any (a n : Nat) (w : World) (hn : n < 18446744073709551616) (ha : a < 2147483647) : Calls Tryd.prog 24 #[.int .u64 a, .int .u64 n] w fun e w' => e = .returned (.int .u64 (pw a n)) ∧ w = w' :=
  power_k 64 a n w (by simpa using hn) hn ha

/-- The number that the index names. -/
def numI (s : Nat) (i : Int) : Nat := if i < 0 ∨ 1099511627776 < i then 0 else num s i.toNat
set_option maxHeartbeats 2000000 in
theorem refNumber_any (s : Nat) (i : Int) (w : World) (hs : s < 18446744073709551616) : Calls Tryd.prog 9 #[.int .u64 s, .int .i64 i] w fun e w' => e = .returned (.int .u64 (numI s i)) ∧ w = w' := by
  unfold numI
  by_cases h0 : i < 0
  · rw [if_pos (Or.inl h0)]
    have d1 : decide (i < 0) = true := decide_eq_true h0
    clear h0
    go_enter Tryd.func9, Tryd.ntmps9
    go_wp2
    go_ret
    exact ⟨rfl, rfl⟩
  · have d1 : decide (i < 0) = false := decide_eq_false h0
    by_cases h1 : 1099511627776 < i
    · rw [if_pos (Or.inr h1)]
      have d2 : decide (1099511627776 < i) = true := decide_eq_true h1
      clear h0 h1
      go_enter Tryd.func9, Tryd.ntmps9
      go_wp2
      go_ret
      exact ⟨rfl, rfl⟩
    · rw [if_neg (by omega)]
      have d2 : decide (1099511627776 < i) = false := decide_eq_false h1
      obtain ⟨n, rfl⟩ := Int.eq_ofNat_of_zero_le (show 0 ≤ i by omega)
      rw [Int.toNat_natCast, num_pw]
      have c1 : Box _ := ⟨fun w => power_any 48271 (n + 1) w (by omega) (by decide)⟩
      have hp := pw_lt 48271 (n + 1)
      obtain ⟨h, hh⟩ : ∃ h, h = pw 48271 (n + 1) := ⟨_, rfl⟩
      rw [← hh] at c1 hp ⊢
      obtain ⟨r, hr⟩ : ∃ r, r = s % 2147483646 := ⟨_, rfl⟩
      have f0 : (s : Int).tmod 2147483646 = r := by rw [Int.tmod_eq_emod_of_nonneg (by omega)]; omega
      have f1 : (s : Int) % 2147483646 = r := by omega
      have f2 : r < 2147483646 := by rw [hr]; exact Nat.mod_lt _ (by decide)
      rw [← hr]
      obtain ⟨q, q0, q1, q2⟩ := mul_fact (r + 1) h (by omega) hp
      rw [← q0]
      rw [show ((r + 1 : Nat) : Int) = (r : Int) + 1 by omega] at q1 q2
      rw [show ((n + 1 : Nat) : Int) = (n : Int) + 1 by omega, show ((48271 : Nat) : Int) = 48271 from rfl] at c1
      have hb : (n : Int) ≤ 1099511627776 := by omega
      have u1 : IntKind.u64.wrap (n : Int) = n := by rw [IntKind.wrap_u64]; omega
      clear hh hr q0 h0 h1 hs
      go_enter Tryd.func9, Tryd.ntmps9
      go_wp2_with (first | (go_at_call 24; (with_reducible refine (c1.out _).mono ?_); rintro e w' ⟨rfl, rfl⟩))
      go_ret
      exact ⟨rfl, rfl⟩

theorem and_one (n : Nat) (h : n < 9223372036854775808) : bits .and .i64 (n : Int) 1 = ((n % 2 : Nat) : Int) := by
  have h1 : (BitVec.ofInt 64 1).toNat = 2 ^ 1 - 1 := by decide
  have key : (BitVec.ofInt 64 (n : Int) &&& BitVec.ofInt 64 1).toNat = ((n : Int) % ((2 ^ 64 : Nat) : Int)).toNat % 2 ^ 1 := by
    rw [BitVec.toNat_and, BitVec.toNat_ofInt, h1, Nat.and_two_pow_sub_one_eq_mod]
  show IntKind.i64.wrap ((BitVec.ofInt 64 (n : Int) &&& BitVec.ofInt 64 1).toNat : Nat) = _
  rw [key, IntKind.wrap_i64]
  omega
set_option maxHeartbeats 2000000 in
theorem number_any (s : Nat) (i : Int) (w : World) (hs : s < 18446744073709551616) : Calls Tryd.prog 8 #[.int .u64 s, .int .i64 i] w fun e w' => e = .returned (.int .u64 (numI s i)) ∧ w = w' := by
  unfold numI
  by_cases h0 : i < 0
  · rw [if_pos (Or.inl h0)]
    have d1 : decide (i < 0) = true := decide_eq_true h0
    clear h0
    go_enter Tryd.func8, Tryd.ntmps8
    go_wp2
    go_ret
    exact ⟨rfl, rfl⟩
  · have d1 : decide (i < 0) = false := decide_eq_false h0
    by_cases h1 : 1099511627776 < i
    · rw [if_pos (Or.inr h1)]
      have d2 : decide (1099511627776 < i) = true := decide_eq_true h1
      clear h0 h1
      go_enter Tryd.func8, Tryd.ntmps8
      go_wp2
      go_ret
      exact ⟨rfl, rfl⟩
    · rw [if_neg (by omega)]
      have d2 : decide (1099511627776 < i) = false := decide_eq_false h1
      obtain ⟨n, rfl⟩ := Int.eq_ofNat_of_zero_le (show 0 ≤ i by omega)
      rw [Int.toNat_natCast]
      have hn : n ≤ 1099511627776 := by omega
      have c1 : Box _ := ⟨fun w => start_any s w hs⟩
      have hI := Box.mk (inv_start s n)
      have hl := num_lt s 0
      generalize num s 0 = x0 at *
      clear h0 h1 hs
      go_enter Tryd.func8, Tryd.ntmps8
      go_wp2_with (first | (go_at_call 23; (with_reducible refine (c1.out _).mono ?_); rintro e w' ⟨rfl, rfl⟩))
      go_loop [5, 6, 7] (fun x f m => ∃ a b k : Nat, x = .int .u64 a ∧ f = .int .u64 b ∧ m = .int .i64 k ∧ k ≤ 1099511627776 ∧ Box (InvN s n a b k)) (fun _ _ m => (intOf m).toNat)
      case atStart => exact ⟨x0, 48271, n, rfl, rfl, rfl, hn, hI⟩
      case round =>
        obtain ⟨a, b, k, rfl, rfl, rfl, hk, hi⟩ := hrel
        by_cases h0 : k = 0
        · subst h0
          have he := Box.mk (inv_end hi.out)
          go_wp2
          go_ret
          exact ⟨ret_int (by rw [he.out]), rfl⟩
        · have hk0 : 0 < k := by omega
          have d3 : decide (0 < (k : Int)) = true := decide_eq_true (by omega)
          have d4 : decide (0 < k) = true := decide_eq_true (by omega)
          have ha := hi.out.1
          have hb := hi.out.2.1
          obtain ⟨q, q0, q1, q2⟩ := mul_fact a b ha hb
          obtain ⟨r, r0, r1, r2⟩ := sq_fact b hb
          have b1 := and_one k (by omega)
          by_cases h2 : k % 2 = 1
          · have hi2 : Box (InvN s n q r (k / 2)) := ⟨by rw [q0, r0]; exact inv_odd hi.out h2⟩
            rw [h2] at b1
            clear hi ha hb q0 r0 h0 h2
            go_wp2
            go_round
            case rel => exact ⟨q, r, k / 2, rfl, rfl, by go_num, by omega, hi2⟩
            case measure => simp [intOf]; omega
          · have hi2 : Box (InvN s n a r (k / 2)) := ⟨by rw [r0]; exact inv_even hi.out (by omega)⟩
            rw [show k % 2 = 0 by omega] at b1
            clear hi ha hb q0 r0 h0 h2
            go_wp2
            go_round
            case rel => exact ⟨a, r, k / 2, rfl, rfl, by go_num, by omega, hi2⟩
            case measure => simp [intOf]; omega
end Go.Proofs.YthlnhemdhlkhfaaDoor
