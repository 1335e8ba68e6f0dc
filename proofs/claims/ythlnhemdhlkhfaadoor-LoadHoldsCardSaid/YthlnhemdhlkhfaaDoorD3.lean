import Derived.Test.YthlnhemdhlkhfaaDoorD2
import Derived.BigQuiet
/- The keys of the reference's workloads. -/
namespace Go.Proofs.YthlnhemdhlkhfaaDoor
open Go.RowKit

/-- The smallest one of some numbers of a seed, each modulo another one. -/
def smallL (s m f : Nat) : Nat → Nat
  | 0 => m
  | t + 1 => min (smallL s m f t) (num s (f + t) % m)
theorem smallL_le (s m f : Nat) : ∀ t, smallL s m f t ≤ m
  | 0 => Nat.le_refl _
  | t + 1 => Nat.le_trans (Nat.min_le_left _ _) (smallL_le s m f t)
theorem smallL_lt (s m f t : Nat) (h : 0 < m) (ht : 0 < t) : smallL s m f t < m := by
  cases t with
  | zero => omega
  | succ t => exact Nat.lt_of_le_of_lt (Nat.min_le_right _ _) (Nat.mod_lt _ h)
theorem tmod_nat (a b : Nat) : (a : Int).tmod (b : Int) = ((a % b : Nat) : Int) := by
  rw [Int.tmod_eq_emod_of_nonneg (by omega), Int.natCast_emod]
theorem tdiv_nat (a b : Nat) : (a : Int).tdiv (b : Int) = ((a / b : Nat) : Int) := by
  rw [Int.tdiv_eq_ediv_of_nonneg (by omega), Int.natCast_ediv]
theorem min_nat (a b : Nat) : min (a : Int) (b : Int) = ((min a b : Nat) : Int) := by omega

set_option maxHeartbeats 2000000 in
theorem refSmall_any (s f t m : Nat) (w : World) (hs : s < 18446744073709551616) (hf : f ≤ 1000000) (ht : t ≤ 1000000) (h0 : 0 < m) (hm : m ≤ 1000000) : Calls Tryd.prog 45 #[.int .u64 s, .int .i64 f, .int .i64 t, .int .i64 m] w fun e w' => e = .returned (.int .i64 (smallL s m f t)) ∧ w = w' := by
  have m0 : ((m : Int) == 0) = false := by rw [beq_eq_false_iff_ne]; omega
  have hs2 := Box.mk hs
  clear hs
  go_enter Tryd.func45, Tryd.ntmps45
  go_wp2
  go_loop [9, 10] (fun o j => ∃ k : Nat, k ≤ t ∧ o = .int .i64 (smallL s m f k) ∧ j = .int .i64 ((f : Int) + (k : Int))) (fun _ j => (f + t - (intOf j).toNat))
  case atStart => exact ⟨0, Nat.zero_le _, rfl, by simp⟩
  case round =>
    obtain ⟨k, hk, rfl, rfl⟩ := hrel
    by_cases hkt : k = t
    · subst hkt
      go_wp2
      go_ret
      exact ⟨rfl, rfl⟩
    · have d1 : decide ((f : Int) + (k : Int) < (f : Int) + (t : Int)) = true := decide_eq_true (by omega)
      have hl := smallL_le s m f k
      have he : Box (smallL s m f (k + 1) = min (smallL s m f k) (num s (f + k) % m)) := ⟨rfl⟩
      have c1 : Box (∀ w, Calls Tryd.prog 9 #[.int .u64 s, .int .i64 ((f : Int) + (k : Int))] w fun e w' => e = .returned (.int .u64 (num s (f + k))) ∧ w = w') := ⟨fun w => by
        have := refNumber_any s ((f : Int) + (k : Int)) w hs2.out
        rw [show numI s ((f : Int) + (k : Int)) = num s (f + k) from by unfold numI; rw [if_neg (by omega)]; congr 1] at this
        exact this⟩
      have hn := num_lt s (f + k)
      have hd : num s (f + k) % m < m := Nat.mod_lt _ h0
      have e1 := tmod_nat (num s (f + k)) m
      have e2 := min_nat (smallL s m f k) (num s (f + k) % m)
      generalize num s (f + k) = n at *
      generalize n % m = q at *
      generalize smallL s m f k = z at *
      rw [← he.out] at e2
      have u1 : IntKind.u64.wrap (m : Int) = m := by rw [IntKind.wrap_u64]; omega
      have u2 : IntKind.i64.wrap (q : Int) = q := by rw [IntKind.wrap_i64]; omega
      go_wp2_with (first | (go_at_call 9; (with_reducible refine (c1.out _).mono ?_); rintro e w' ⟨rfl, rfl⟩))
      go_round
      case rel => exact ⟨k + 1, by omega, rfl, by simp; omega⟩
      case measure => simp [intOf]; omega
end Go.Proofs.YthlnhemdhlkhfaaDoor
