import Derived.Test.YtkllfeoepbahlaaDoorLib
import Derived.Test.YtkllfeoepbahlaaDoorWM
import Derived.Test.YtkllfeoepbahlaaDoorTM
/- Contracts of package tick and of its reference: sums, dues, digits. -/
namespace Go.Proofs.YtkllfeoepbahlaaDoor
open Go.RowKit

def addN (t k : Nat) : Nat := if never - t ≤ k then never else t + k
def leftN (d n : Nat) : Nat := if d = never then never else if d ≤ n then 0 else d - n
def dueB (d n : Nat) : Bool := decide (d ≠ never) && decide (d ≤ n)
theorem addN_lt (t k : Nat) (ht : t ≤ never) : addN t k ≤ never := by unfold addN; split <;> omega
theorem leftN_lt (d n : Nat) (hd : d ≤ never) : leftN d n ≤ never := by unfold leftN; (repeat' split) <;> omega

set_option maxHeartbeats 400000 in
theorem add_any (t k : Nat) (w : World) (ht : t < 18446744073709551616) (hk : k < 18446744073709551616) :
    Calls Tryd.prog 9 #[.int .u64 t, .int .u64 k] w fun e w' => e = .returned (.int .u64 (addN t k)) ∧ w = w' := by
  unfold addN never
  by_cases h : 18446744073709551615 - t ≤ k
  · rw [if_pos h]
    have h' : (18446744073709551615 - (t : Int)) ≤ k := by omega
    go_enter Tryd.func9, Tryd.ntmps9
    go_wp2
    go_ret
    exact ⟨rfl, rfl⟩
  · rw [if_neg h]
    go_enter Tryd.func9, Tryd.ntmps9
    go_wp2
    go_ret
    exact ⟨ret_int (by first | omega | simp), rfl⟩

set_option maxHeartbeats 400000 in
theorem refAdd_any (t k : Nat) (w : World) (ht : t < 18446744073709551616) (hk : k < 18446744073709551616) :
    Calls Tryd.prog 10 #[.int .u64 t, .int .u64 k] w fun e w' => e = .returned (.int .u64 (addN t k)) ∧ w = w' := by
  unfold addN never
  by_cases h : 18446744073709551615 - t ≤ k
  · rw [if_pos h]
    go_enter Tryd.func10, Tryd.ntmps10
    go_wp2
    go_ret
    exact ⟨rfl, rfl⟩
  · rw [if_neg h]
    go_enter Tryd.func10, Tryd.ntmps10
    go_wp2
    go_ret
    exact ⟨ret_int (by first | omega | simp), rfl⟩

set_option maxHeartbeats 400000 in
theorem due_any (d n : Nat) (w : World) (hd : d < 18446744073709551616) (hn : n < 18446744073709551616) :
    Calls Tryd.prog 15 #[.int .u64 d, .int .u64 n] w fun e w' => e = .returned (.bool (dueB d n)) ∧ w = w' := by
  unfold dueB never
  by_cases h : d = 18446744073709551615
  · subst h
    go_enter Tryd.func15, Tryd.ntmps15
    go_wp2
    go_ret
    exact ⟨rfl, rfl⟩
  · have h' : ((d : Int) != 18446744073709551615) = true := by simp; omega
    go_enter Tryd.func15, Tryd.ntmps15
    go_wp2
    go_ret
    exact ⟨ret_bool (by rw [Bool.eq_iff_iff]; simp; omega), rfl⟩

set_option maxHeartbeats 400000 in
theorem refDue_any (d n : Nat) (w : World) (hd : d < 18446744073709551616) (hn : n < 18446744073709551616) :
    Calls Tryd.prog 16 #[.int .u64 d, .int .u64 n] w fun e w' => e = .returned (.bool (dueB d n)) ∧ w = w' := by
  unfold dueB never
  by_cases h : d = 18446744073709551615
  · subst h
    go_enter Tryd.func16, Tryd.ntmps16
    go_wp2
    go_ret
    exact ⟨rfl, rfl⟩
  · have h' : ((d : Int) != 18446744073709551615) = true := by simp; omega
    go_enter Tryd.func16, Tryd.ntmps16
    go_wp2
    go_ret
    exact ⟨ret_bool (by rw [Bool.eq_iff_iff]; simp; omega), rfl⟩

set_option maxHeartbeats 400000 in
theorem left_any (d n : Nat) (w : World) (hd : d < 18446744073709551616) (hn : n < 18446744073709551616) :
    Calls Tryd.prog 17 #[.int .u64 d, .int .u64 n] w fun e w' => e = .returned (.int .u64 (leftN d n)) ∧ w = w' := by
  unfold leftN never
  by_cases h : d = 18446744073709551615
  · subst h
    rw [if_pos rfl]
    go_enter Tryd.func17, Tryd.ntmps17
    go_wp2
    go_ret
    exact ⟨rfl, rfl⟩
  · rw [if_neg h]
    have h' : ((d : Int) == 18446744073709551615) = false := by simp; omega
    by_cases h2 : d ≤ n
    · rw [if_pos h2]
      go_enter Tryd.func17, Tryd.ntmps17
      go_wp2
      go_ret
      exact ⟨rfl, rfl⟩
    · rw [if_neg h2]
      go_enter Tryd.func17, Tryd.ntmps17
      go_wp2
      go_ret
      exact ⟨ret_int (by first | omega | simp), rfl⟩

set_option maxHeartbeats 400000 in
theorem refLeft_any (d n : Nat) (w : World) (hd : d < 18446744073709551616) (hn : n < 18446744073709551616) :
    Calls Tryd.prog 18 #[.int .u64 d, .int .u64 n] w fun e w' => e = .returned (.int .u64 (leftN d n)) ∧ w = w' := by
  have c1 : Box _ := ⟨fun w => refDue_any d n w hd hn⟩
  unfold leftN
  by_cases h : d = never
  · rw [if_pos h]
    subst h
    unfold never
    go_enter Tryd.func18, Tryd.ntmps18
    go_wp2
    go_ret
    exact ⟨rfl, rfl⟩
  · rw [if_neg h]
    have h' : ((d : Int) == 18446744073709551615) = false := by unfold never at h; simp; omega
    have e : dueB d n = decide (d ≤ n) := by unfold dueB; simp [h]
    rw [e] at c1
    clear h e
    by_cases h2 : d ≤ n
    · rw [if_pos h2]
      rw [decide_eq_true h2] at c1
      go_enter Tryd.func18, Tryd.ntmps18
      go_wp2_with (go_at_call 16; (with_reducible refine (c1.out _).mono ?_); rintro e w' ⟨rfl, rfl⟩)
      go_ret
      exact ⟨rfl, rfl⟩
    · rw [if_neg h2]
      rw [decide_eq_false h2] at c1
      go_enter Tryd.func18, Tryd.ntmps18
      go_wp2_with (go_at_call 16; (with_reducible refine (c1.out _).mono ?_); rintro e w' ⟨rfl, rfl⟩)
      go_ret
      exact ⟨ret_int (by first | omega | simp), rfl⟩

set_option maxHeartbeats 400000 in
theorem eff_any (a b : Nat) (w : World) (ha : a < 18446744073709551616) (hb : b < 18446744073709551616) :
    Calls Tryd.prog 11 #[.int .u64 a, .int .u64 b] w fun e w' => e = .returned (.int .u64 (max a b : Nat)) ∧ w = w' := by
  go_enter Tryd.func11, Tryd.ntmps11
  go_wp2
  go_ret
  exact ⟨ret_int (by omega), rfl⟩

set_option maxHeartbeats 400000 in
theorem refEff_any (a b : Nat) (w : World) (ha : a < 18446744073709551616) (hb : b < 18446744073709551616) :
    Calls Tryd.prog 12 #[.int .u64 a, .int .u64 b] w fun e w' => e = .returned (.int .u64 (max a b : Nat)) ∧ w = w' := by
  by_cases h : a < b
  all_goals
    go_enter Tryd.func12, Tryd.ntmps12
    go_wp2
    go_ret
    exact ⟨ret_int (by omega), rfl⟩

theorem lt8_nat' (i : Nat) (h1 : i < 8) : i = 0 ∨ i = 1 ∨ i = 2 ∨ i = 3 ∨ i = 4 ∨ i = 5 ∨ i = 6 ∨ i = 7 := by omega
/-- The answer of Digit. -/
def digV (t : Nat) (l : Int) : Nat := if l < 0 ∨ 7 < l then 0 else WM.lane t l.toNat
def digE (l : Int) : Int := if l < 0 ∨ 7 < l then 3 else 0

set_option maxHeartbeats 1000000 in
theorem digit_any (t : Nat) (l : Int) (w : World) (ht : t < 18446744073709551616) :
    Calls Tryd.prog 25 #[.int .u64 t, .int .i64 l] w fun e w' => e = .returned (.tuple #[.int .u8 (digV t l), .int .i64 (digE l)]) ∧ w = w' := by
  unfold digV digE
  by_cases h : l < 0 ∨ 7 < l
  · rw [if_pos h, if_pos h]
    rcases h with h | h
    all_goals
      go_enter Tryd.func25, Tryd.ntmps25
      go_wp2
      all_goals go_ret2
      all_goals exact ⟨rfl, rfl⟩
  · rw [if_neg h, if_neg h]
    obtain ⟨i, rfl⟩ := Int.eq_ofNat_of_zero_le (show 0 ≤ l by omega)
    rw [Int.toNat_natCast]
    have hi : i < 8 := by omega
    clear h
    rcases lt8_nat' i hi with rfl | rfl | rfl | rfl | rfl | rfl | rfl | rfl
    all_goals
      clear hi
      go_enter Tryd.func25, Tryd.ntmps25
      go_wp2
      go_ret2
      exact ⟨ret_int2 (by simp [WM.lane]; try omega) rfl, rfl⟩
end Go.Proofs.YtkllfeoepbahlaaDoor
