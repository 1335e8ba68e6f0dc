import Derived.Test.YthlnhemdhlkhfaaDoorD10
import Derived.Test.YthlnhemdhlkhfaaDoorTE
import Derived.Test.YthlnhemdhlkhfaaDoorTF
import Derived.Test.YthlnhemdhlkhfaaDoorCU
import Derived.Test.YthlnhemdhlkhfaaDoorCUM
import Derived.Lib.ItoaMem
/- Words and digits of workloads. -/
namespace Go.Proofs.YthlnhemdhlkhfaaDoor
open Go.RowKit

set_option maxHeartbeats 1000000 in
theorem rdig_one (n : Nat) (w : World) (h : n < 10) : Calls Tryd.prog 33 #[.int .u64 n] w fun e w' => e = .returned (.string (digs n)) ∧ w = w' := by
  rw [digs_one n h]
  obtain rfl | rfl | rfl | rfl | rfl | rfl | rfl | rfl | rfl | rfl : n = 0 ∨ n = 1 ∨ n = 2 ∨ n = 3 ∨ n = 4 ∨ n = 5 ∨ n = 6 ∨ n = 7 ∨ n = 8 ∨ n = 9 := by omega
  all_goals
    go_enter Tryd.func33, Tryd.ntmps33
    go_wp2
    go_ret
    exact ⟨rfl, rfl⟩
set_option maxRecDepth 100000 in
set_option maxHeartbeats 2000000 in
theorem rdig_k (k : Nat) : ∀ (n : Nat) (w : World), n < 10 ^ (k + 1) → n < 18446744073709551616 → Calls Tryd.prog 33 #[.int .u64 n] w fun e w' => e = .returned (.string (digs n)) ∧ w = w' := by
  induction k with
  | zero => intro n w h _; exact rdig_one n w (by simpa using h)
  | succ k ih =>
    intro n w h h2
    by_cases h10 : n < 10
    · exact rdig_one n w h10
    · have c1 : Box _ := ⟨fun w => ih (n / 10) w (by rw [Nat.pow_succ] at h; omega) (by omega)⟩
      have c2 : Box _ := ⟨fun w => rdig_one (n % 10) w (Nat.mod_lt _ (by decide))⟩
      have hd : decide ((n : Int) < 10) = false := decide_eq_false (by omega)
      have e1 : (n : Int).tdiv 10 = ((n / 10 : Nat) : Int) := tdiv_nat n 10
      have e2 : (n : Int).tmod 10 = ((n % 10 : Nat) : Int) := tmod_nat n 10
      have hx := digs_size (n / 10) (by omega)
      have hy := digs_size (n % 10) (by omega)
      rw [digs_ten n (by omega)]
      have f1 : (n : Int) / 10 = ((n / 10 : Nat) : Int) := (Int.natCast_ediv n 10).symm
      have f2 : (n : Int) % 10 = ((n % 10 : Nat) : Int) := (Int.natCast_emod n 10).symm
      generalize digs (n / 10) = x at *
      generalize digs (n % 10) = y at *
      have u1 : IntKind.u64.wrap ((n / 10 : Nat) : Int) = ((n / 10 : Nat) : Int) := by rw [IntKind.wrap_u64]; omega
      have u2 : IntKind.u64.wrap ((n % 10 : Nat) : Int) = ((n % 10 : Nat) : Int) := by rw [IntKind.wrap_u64]; omega
      generalize n / 10 = m at *
      generalize n % 10 = q at *
      clear ih h h2 h10
      go_enter Tryd.func33, Tryd.ntmps33
      go_wp2_with (first | (go_at_call 33; (with_reducible refine (c1.out _).mono ?_); rintro e w' ⟨rfl, rfl⟩) | (go_at_call 33; (with_reducible refine (c2.out _).mono ?_); rintro e w' ⟨rfl, rfl⟩))
      go_ret
      exact ⟨rfl, rfl⟩
theorem rdig_any (n : Nat) (w : World) (h : n < 18446744073709551616) : Calls Tryd.prog 33 #[.int .u64 n] w fun e w' => e = .returned (.string (digs n)) ∧ w = w' :=
  rdig_k 19 n w (by omega) h

/-- The word of each kind. -/
def wordL : Nat → List UInt8
  | 1 => [108, 111, 111, 112]
  | 2 => [115, 99, 97, 110]
  | 3 => [101, 118, 101, 110]
  | 4 => [115, 107, 101, 119]
  | 5 => [112, 104, 97, 115, 101, 115]
  | 6 => [109, 105, 120, 101, 100]
  | _ => []
def wordB (k : Nat) : ByteArray := ⟨(wordL k).toArray⟩
def wordsC : Array Value := #[.string (wordB 0), .string (wordB 1), .string (wordB 2), .string (wordB 3), .string (wordB 4), .string (wordB 5), .string (wordB 6)]
theorem wordsC_at (k : Nat) (h : k ≤ 6) : wordsC[k]? = some (.string (wordB k)) := by
  obtain rfl | rfl | rfl | rfl | rfl | rfl | rfl : k = 0 ∨ k = 1 ∨ k = 2 ∨ k = 3 ∨ k = 4 ∨ k = 5 ∨ k = 6 := by omega
  all_goals rfl
set_option maxHeartbeats 400000 in
theorem names_any (w : World) : Calls Tryd.prog 29 #[] w fun e w' => e = .returned (.slice (some ⟨w.heap.size, 0, none⟩) 7 7) ∧ w.alloc (.cells wordsC 9) = w' := by
  go_enter Tryd.func29, Tryd.ntmps29
  go_wp2
  go_ret
  exact ⟨rfl, rfl⟩
set_option maxHeartbeats 400000 in
theorem rwords_any (w : World) : Calls Tryd.prog 32 #[] w fun e w' => e = .returned (.slice (some ⟨w.heap.size, 0, none⟩) 7 7) ∧ w.alloc (.cells wordsC 9) = w' := by
  go_enter Tryd.func32, Tryd.ntmps32
  go_wp2
  go_ret
  exact ⟨rfl, rfl⟩
theorem wordB_size (k : Nat) : (wordB k).size ≤ 6 := by
  show (wordL k).length ≤ 6
  unfold wordL
  split <;> decide
/-- The names, one of them told. -/
theorem names_at (k : Nat) (h : k ≤ 6) (w : World) : Calls Tryd.prog 29 #[] w fun e w' => e = .returned (.slice (some ⟨w.heap.size, 0, none⟩) 7 7) ∧ w'.cell? ⟨w.heap.size, k, none⟩ = some (.string (wordB k)) ∧ Ext w w' :=
  (names_any w).mono fun e w' hh => ⟨hh.1, by rw [← hh.2, World.cell?_alloc_new]; exact wordsC_at k h, by rw [← hh.2]; exact Ext.alloc (Below.refl _ _) _⟩
theorem rwords_at (k : Nat) (h : k ≤ 6) (w : World) : Calls Tryd.prog 32 #[] w fun e w' => e = .returned (.slice (some ⟨w.heap.size, 0, none⟩) 7 7) ∧ w'.cell? ⟨w.heap.size, k, none⟩ = some (.string (wordB k)) ∧ Ext w w' :=
  (rwords_any w).mono fun e w' hh => ⟨hh.1, by rw [← hh.2, World.cell?_alloc_new]; exact wordsC_at k h, by rw [← hh.2]; exact Ext.alloc (Below.refl _ _) _⟩
end Go.Proofs.YthlnhemdhlkhfaaDoor
