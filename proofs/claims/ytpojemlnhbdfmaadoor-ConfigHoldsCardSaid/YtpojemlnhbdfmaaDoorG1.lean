import Derived.Test.YtpojemlnhbdfmaaDoorLib
import Derived.Test.YtpojemlnhbdfmaaDoorGM
/- Contracts of what configurations are checked by, their parts, and their resizing. -/
namespace Go.Proofs.YtpojemlnhbdfmaaDoor
open Go.RowKit

def btw (n lo hi : Int) : Bool := decide (lo ≤ n ∧ n ≤ hi)
theorem between_any (n lo hi : Int) (w : World) : Calls Tryd.prog 23 #[.int .i64 n, .int .i64 lo, .int .i64 hi] w fun e w' => e = .returned (.bool (btw n lo hi)) ∧ w = w' := by
  unfold btw
  by_cases h1 : lo ≤ n
  · by_cases h2 : n ≤ hi
    · rw [decide_eq_true ⟨h1, h2⟩]
      have d2 : decide (n ≤ hi) = true := decide_eq_true h2
      have d1 : decide (lo ≤ n) = true := decide_eq_true h1
      clear h1 h2
      go_enter Tryd.func23, Tryd.ntmps23
      go_wp2
      go_ret
      exact ⟨rfl, rfl⟩
    · rw [decide_eq_false (fun h => h2 h.2)]
      have d2 : decide (n ≤ hi) = false := decide_eq_false h2
      have d1 : decide (lo ≤ n) = true := decide_eq_true h1
      clear h1 h2
      go_enter Tryd.func23, Tryd.ntmps23
      go_wp2
      go_ret
      exact ⟨rfl, rfl⟩
  · rw [decide_eq_false (fun h => h1 h.1)]
    have d1 : decide (lo ≤ n) = false := decide_eq_false h1
    clear h1
    go_enter Tryd.func23, Tryd.ntmps23
    go_wp2
    go_ret
    exact ⟨rfl, rfl⟩
theorem chk3_btw (a b p : Int) : chk3 a b p = if btw a 1 1048576 then (if btw b 1 1099511627776 then (if btw p 0 99 then 0 else 242) else 241) else 240 := by
  unfold chk3 btw
  by_cases h1 : a < 1 ∨ 1048576 < a
  · rw [if_pos h1, if_neg (by simp; omega)]
  · rw [if_neg h1, if_pos (c := decide _ = true) (by simp; omega)]
    by_cases h2 : b < 1 ∨ 1099511627776 < b
    · rw [if_pos h2, if_neg (by simp; omega)]
    · rw [if_neg h2, if_pos (c := decide _ = true) (by simp; omega)]
      by_cases h3 : p < 0 ∨ 99 < p
      · rw [if_pos h3, if_neg (by simp; omega)]
      · rw [if_neg h3, if_pos (by simp; omega)]
theorem chk3_cases (a b p : Int) (Q : Int → Prop) (h1 : decide (a < 1) = true → Q 240) (h2 : decide (a < 1) = false → decide (1048576 < a) = true → Q 240)
    (h3 : decide (a < 1) = false → decide (1048576 < a) = false → decide (b < 1) = true → Q 241) (h4 : decide (a < 1) = false → decide (1048576 < a) = false → decide (b < 1) = false → decide (1099511627776 < b) = true → Q 241)
    (h5 : decide (a < 1) = false → decide (1048576 < a) = false → decide (b < 1) = false → decide (1099511627776 < b) = false → decide (p < 0) = true → Q 242)
    (h6 : decide (a < 1) = false → decide (1048576 < a) = false → decide (b < 1) = false → decide (1099511627776 < b) = false → decide (p < 0) = false → decide (99 < p) = true → Q 242)
    (h7 : decide (a < 1) = false → decide (1048576 < a) = false → decide (b < 1) = false → decide (1099511627776 < b) = false → decide (p < 0) = false → decide (99 < p) = false → Q 0) : Q (chk3 a b p) := by
  unfold chk3
  split
  · rename_i h
    rcases Classical.em (a < 1) with g | g
    · exact h1 (decide_eq_true g)
    · exact h2 (decide_eq_false g) (decide_eq_true (by omega))
  · rename_i h
    have g1 : decide (a < 1) = false := decide_eq_false (by omega)
    have g2 : decide (1048576 < a) = false := decide_eq_false (by omega)
    split
    · rename_i h
      rcases Classical.em (b < 1) with g | g
      · exact h3 g1 g2 (decide_eq_true g)
      · exact h4 g1 g2 (decide_eq_false g) (decide_eq_true (by omega))
    · rename_i h
      have g3 : decide (b < 1) = false := decide_eq_false (by omega)
      have g4 : decide (1099511627776 < b) = false := decide_eq_false (by omega)
      split
      · rename_i h
        rcases Classical.em (p < 0) with g | g
        · exact h5 g1 g2 g3 g4 (decide_eq_true g)
        · exact h6 g1 g2 g3 g4 (decide_eq_false g) (decide_eq_true (by omega))
      · exact h7 g1 g2 g3 g4 (decide_eq_false (by omega)) (decide_eq_false (by omega))

set_option maxHeartbeats 1000000 in
theorem gcheck_any (a b p : Int) (s : Nat) (t : Bool) (w : World) :
    Calls Tryd.prog 9 #[.agg #[.int .i64 a, .int .i64 b, .int .i64 p, .int .u64 s, .bool t]] w fun e w' => e = .returned (.int .i64 (chk3 a b p)) ∧ w.alloc (.cells #[.int .i64 a, .int .i64 b, .int .i64 p, .int .u64 s, .bool t] 24) = w' := by
  rw [chk3_btw]
  have c1 : Box _ := ⟨fun w => between_any a 1 1048576 w⟩
  have c2 : Box _ := ⟨fun w => between_any b 1 1099511627776 w⟩
  have c3 : Box _ := ⟨fun w => between_any p 0 99 w⟩
  generalize btw a 1 1048576 = x at *
  generalize btw b 1 1099511627776 = y at *
  generalize btw p 0 99 = z at *
  cases x
  · go_enter Tryd.func9, Tryd.ntmps9
    go_wp2_with (first | (go_at_call 23; (with_reducible refine (c1.out _).mono ?_); rintro e w' ⟨rfl, rfl⟩) | (go_at_call 23; (with_reducible refine (c2.out _).mono ?_); rintro e w' ⟨rfl, rfl⟩) | (go_at_call 23; (with_reducible refine (c3.out _).mono ?_); rintro e w' ⟨rfl, rfl⟩))
    go_ret
    exact ⟨rfl, rfl⟩
  · cases y
    · go_enter Tryd.func9, Tryd.ntmps9
      go_wp2_with (first | (go_at_call 23; (with_reducible refine (c1.out _).mono ?_); rintro e w' ⟨rfl, rfl⟩) | (go_at_call 23; (with_reducible refine (c2.out _).mono ?_); rintro e w' ⟨rfl, rfl⟩) | (go_at_call 23; (with_reducible refine (c3.out _).mono ?_); rintro e w' ⟨rfl, rfl⟩))
      go_ret
      exact ⟨rfl, rfl⟩
    · cases z
      all_goals
        go_enter Tryd.func9, Tryd.ntmps9
        go_wp2_with (first | (go_at_call 23; (with_reducible refine (c1.out _).mono ?_); rintro e w' ⟨rfl, rfl⟩) | (go_at_call 23; (with_reducible refine (c2.out _).mono ?_); rintro e w' ⟨rfl, rfl⟩) | (go_at_call 23; (with_reducible refine (c3.out _).mono ?_); rintro e w' ⟨rfl, rfl⟩))
        go_ret
        exact ⟨rfl, rfl⟩
set_option maxHeartbeats 1000000 in
theorem rcheck_any (a b p : Int) (s : Nat) (t : Bool) (w : World) :
    Calls Tryd.prog 8 #[.agg #[.int .i64 a, .int .i64 b, .int .i64 p, .int .u64 s, .bool t]] w fun e w' => e = .returned (.int .i64 (chk3 a b p)) ∧ w.alloc (.cells #[.int .i64 a, .int .i64 b, .int .i64 p, .int .u64 s, .bool t] 24) = w' := by
  refine chk3_cases a b p (fun r => Calls Tryd.prog 8 #[.agg #[.int .i64 a, .int .i64 b, .int .i64 p, .int .u64 s, .bool t]] w fun e w' => e = .returned (.int .i64 r) ∧ w.alloc (.cells #[.int .i64 a, .int .i64 b, .int .i64 p, .int .u64 s, .bool t] 24) = w') ?_ ?_ ?_ ?_ ?_ ?_ ?_ <;> intros
  all_goals
    go_enter Tryd.func8, Tryd.ntmps8
    go_wp2
    go_ret
    exact ⟨rfl, rfl⟩

/-- Whether a configuration is valid. -/
def ok3 (a b p : Int) : Bool := decide (chk3 a b p = 0)
set_option maxHeartbeats 1000000 in
theorem gvalid_any (a b p : Int) (s : Nat) (t : Bool) (w : World) :
    Calls Tryd.prog 10 #[.agg #[.int .i64 a, .int .i64 b, .int .i64 p, .int .u64 s, .bool t]] w fun e w' => e = .returned (.bool (ok3 a b p)) ∧ Ext w w' := by
  have c1 : Box _ := ⟨fun w => gcheck_any a b p s t w⟩
  have hx := Ext.alloc (Ext.alloc (Below.refl w.heap.size w) (.cells #[.int .i64 a, .int .i64 b, .int .i64 p, .int .u64 s, .bool t] 24)) (.cells #[.int .i64 a, .int .i64 b, .int .i64 p, .int .u64 s, .bool t] 24)
  unfold ok3
  by_cases h : chk3 a b p = 0
  · rw [h] at c1 ⊢
    clear h
    go_enter Tryd.func10, Tryd.ntmps10
    go_wp2_with (first | (go_at_call 9; (with_reducible refine (c1.out _).mono ?_); rintro e w' ⟨rfl, rfl⟩))
    go_ret
    exact ⟨rfl, hx⟩
  · have h1 : (chk3 a b p == 0) = false := by rw [beq_eq_false_iff_ne]; exact h
    rw [decide_eq_false h]
    generalize chk3 a b p = k at *
    clear h
    go_enter Tryd.func10, Tryd.ntmps10
    go_wp2_with (first | (go_at_call 9; (with_reducible refine (c1.out _).mono ?_); rintro e w' ⟨rfl, rfl⟩))
    go_ret
    exact ⟨rfl, hx⟩

/-- The part of a configuration. -/
def part3 (a b p : Int) : Int := if chk3 a b p = 0 then (if p = 0 then -1 else b * p / 100) else 0
set_option maxHeartbeats 1000000 in
theorem gpart_any (a b p : Int) (s : Nat) (t : Bool) (w : World) :
    Calls Tryd.prog 21 #[.agg #[.int .i64 a, .int .i64 b, .int .i64 p, .int .u64 s, .bool t]] w fun e w' => e = .returned (.tuple #[.int .i64 (part3 a b p), .int .i64 (chk3 a b p)]) ∧ Ext w w' := by
  have c1 : Box _ := ⟨fun w => gcheck_any a b p s t w⟩
  have hx := Ext.alloc (Ext.alloc (Below.refl w.heap.size w) (.cells #[.int .i64 a, .int .i64 b, .int .i64 p, .int .u64 s, .bool t] 24)) (.cells #[.int .i64 a, .int .i64 b, .int .i64 p, .int .u64 s, .bool t] 24)
  unfold part3
  by_cases h : chk3 a b p = 0
  · obtain ⟨g1, g2, g3, g4, g5, g6⟩ := chk3_0 h
    rw [if_pos h]
    rw [h] at c1 ⊢
    clear h
    by_cases hp : p = 0
    · subst hp
      rw [if_pos rfl]
      go_enter Tryd.func21, Tryd.ntmps21
      go_wp2_with (first | (go_at_call 9; (with_reducible refine (c1.out _).mono ?_); rintro e w' ⟨rfl, rfl⟩))
      go_ret2
      exact ⟨rfl, hx⟩
    · rw [if_neg hp]
      have hp1 : (p == 0) = false := by rw [beq_eq_false_iff_ne]; exact hp
      have q1 : 0 ≤ b * p := Int.mul_nonneg (by omega) g5
      have q2 : b * p ≤ 1099511627776 * 99 := Int.mul_le_mul g4 g6 g5 (by omega)
      have q3 : IntKind.i64.wrap (b * p) = b * p := IntWalk.i64_in _ (by omega)
      have q4 : (b * p).tdiv 100 = b * p / 100 := Int.tdiv_eq_ediv_of_nonneg q1
      clear hp
      go_enter Tryd.func21, Tryd.ntmps21
      go_wp2_with (first | (go_at_call 9; (with_reducible refine (c1.out _).mono ?_); rintro e w' ⟨rfl, rfl⟩))
      go_ret2
      exact ⟨rfl, hx⟩
  · rw [if_neg h]
    have h1 : (chk3 a b p == 0) = false := by rw [beq_eq_false_iff_ne]; exact h
    have h2 : (chk3 a b p != 0) = true := by rw [bne_iff_ne]; exact h
    generalize chk3 a b p = k at *
    clear h
    go_enter Tryd.func21, Tryd.ntmps21
    go_wp2_with (first | (go_at_call 9; (with_reducible refine (c1.out _).mono ?_); rintro e w' ⟨rfl, rfl⟩))
    go_ret2
    exact ⟨rfl, hx⟩

theorem part_eq (b p : Int) (h0 : 0 ≤ b) (h1 : 0 ≤ p) : b / 100 * p + b % 100 * p / 100 = b * p / 100 := by
  have e : b * p = b % 100 * p + 100 * (b / 100 * p) := by
    have h := Int.emod_add_mul_ediv b 100
    calc b * p = (b % 100 + 100 * (b / 100)) * p := by rw [h]
      _ = b % 100 * p + 100 * (b / 100 * p) := by rw [Int.add_mul, Int.mul_assoc]
  rw [e, Int.add_mul_ediv_left _ _ (by decide)]
  omega
set_option maxHeartbeats 1000000 in
theorem rpart_any (a b p : Int) (s : Nat) (t : Bool) (w : World) (h : chk3 a b p = 0) :
    Calls Tryd.prog 14 #[.agg #[.int .i64 a, .int .i64 b, .int .i64 p, .int .u64 s, .bool t]] w fun e w' => e = .returned (.int .i64 (part3 a b p)) ∧ Ext w w' := by
  have hx := Ext.alloc (Below.refl w.heap.size w) (.cells #[.int .i64 a, .int .i64 b, .int .i64 p, .int .u64 s, .bool t] 24)
  obtain ⟨g1, g2, g3, g4, g5, g6⟩ := chk3_0 h
  unfold part3
  rw [if_pos h]
  clear h
  by_cases hp : p = 0
  · subst hp
    rw [if_pos rfl]
    go_enter Tryd.func14, Tryd.ntmps14
    go_wp2
    go_ret
    exact ⟨rfl, hx⟩
  · rw [if_neg hp, ← part_eq b p (by omega) g5]
    have hp1 : (p == 0) = false := by rw [beq_eq_false_iff_ne]; exact hp
    have d0 : 0 ≤ b / 100 := by omega
    have d1 : b / 100 ≤ 10995116277 := by omega
    have m0 : 0 ≤ b % 100 := by omega
    have m1 : b % 100 ≤ 99 := by omega
    have q1 : 0 ≤ b / 100 * p := Int.mul_nonneg d0 g5
    have q2 : b / 100 * p ≤ 10995116277 * 99 := Int.mul_le_mul d1 g6 g5 (by omega)
    have r1 : 0 ≤ b % 100 * p := Int.mul_nonneg m0 g5
    have r2 : b % 100 * p ≤ 99 * 99 := Int.mul_le_mul m1 g6 g5 (by omega)
    have e1 : b.tdiv 100 = b / 100 := Int.tdiv_eq_ediv_of_nonneg (by omega)
    have e2 : b.tmod 100 = b % 100 := Int.tmod_eq_emod_of_nonneg (by omega)
    generalize b / 100 = x at *
    generalize b % 100 = y at *
    have q3 : IntKind.i64.wrap (x * p) = x * p := IntWalk.i64_in _ (by omega)
    have q5 : IntKind.i64.wrap (y * p) = y * p := IntWalk.i64_in _ (by omega)
    have q6 : (y * p).tdiv 100 = y * p / 100 := Int.tdiv_eq_ediv_of_nonneg r1
    have q7 : y * p / 100 ≤ 99 := by omega
    have q8 : 0 ≤ y * p / 100 := by omega
    have q9 : IntKind.i64.wrap (x * p + y * p / 100) = x * p + y * p / 100 := IntWalk.i64_in _ (by omega)
    clear hp
    go_enter Tryd.func14, Tryd.ntmps14
    go_wp2
    go_ret
    exact ⟨rfl, hx⟩

/-- What Resize returns. -/
def rz3 (a b p : Int) (s : Nat) (t : Bool) (m n : Int) : Value := if chk3 a b p = 0 ∧ chk3 m n p = 0 then .agg #[.int .i64 m, .int .i64 n, .int .i64 p, .int .u64 s, .bool t] else .agg #[.int .i64 0, .int .i64 0, .int .i64 0, .int .u64 0, .bool false]
def rze (a b p m n : Int) : Int := if chk3 a b p = 0 then chk3 m n p else chk3 a b p
set_option maxHeartbeats 2000000 in
theorem gresize_any (a b p : Int) (s : Nat) (t : Bool) (m n : Int) (w : World) :
    Calls Tryd.prog 22 #[.agg #[.int .i64 a, .int .i64 b, .int .i64 p, .int .u64 s, .bool t], .int .i64 m, .int .i64 n] w fun e w' => e = .returned (.tuple #[rz3 a b p s t m n, .int .i64 (rze a b p m n)]) ∧ Ext w w' := by
  have c1 : Box _ := ⟨fun w => gcheck_any a b p s t w⟩
  have c2 : Box _ := ⟨fun w => gcheck_any m n p s t w⟩
  unfold rz3 rze
  by_cases h : chk3 a b p = 0
  · by_cases g : chk3 m n p = 0
    · rw [if_pos ⟨h, g⟩, if_pos h]
      rw [h] at c1
      rw [g] at c2 ⊢
      clear h g
      go_enter Tryd.func22, Tryd.ntmps22
      go_wp2_with (first | (go_at_call 9; (with_reducible refine (c1.out _).mono ?_); rintro e w' ⟨rfl, rfl⟩) | (go_at_call 9; (with_reducible refine (c2.out _).mono ?_); rintro e w' ⟨rfl, rfl⟩))
      refine bodyPost_ret (v := .tuple #[.agg #[.int .i64 m, .int .i64 n, .int .i64 p, .int .u64 s, .bool t], .int .i64 0]) (by simp [results, Tryd.results22, go_sem]) rfl ⟨rfl, ?_⟩
      repeat' first | exact Below.refl _ _ | refine Ext.alloc ?_ _
    · rw [if_neg (fun q => g q.2), if_pos h]
      have h1 : (chk3 m n p == 0) = false := by rw [beq_eq_false_iff_ne]; exact g
      rw [h] at c1
      generalize chk3 m n p = k at *
      clear h g
      go_enter Tryd.func22, Tryd.ntmps22
      go_wp2_with (first | (go_at_call 9; (with_reducible refine (c1.out _).mono ?_); rintro e w' ⟨rfl, rfl⟩) | (go_at_call 9; (with_reducible refine (c2.out _).mono ?_); rintro e w' ⟨rfl, rfl⟩))
      refine bodyPost_ret (v := .tuple #[.agg #[.int .i64 0, .int .i64 0, .int .i64 0, .int .u64 0, .bool false], .int .i64 k]) (by simp [results, Tryd.results22, go_sem]) rfl ⟨rfl, ?_⟩
      repeat' first | exact Below.refl _ _ | refine Ext.alloc ?_ _
  · rw [if_neg (fun q => h q.1), if_neg h]
    have h1 : (chk3 a b p == 0) = false := by rw [beq_eq_false_iff_ne]; exact h
    have h2 : (chk3 a b p != 0) = true := by rw [bne_iff_ne]; exact h
    generalize chk3 a b p = k at *
    clear h
    go_enter Tryd.func22, Tryd.ntmps22
    go_wp2_with (first | (go_at_call 9; (with_reducible refine (c1.out _).mono ?_); rintro e w' ⟨rfl, rfl⟩))
    refine bodyPost_ret (v := .tuple #[.agg #[.int .i64 0, .int .i64 0, .int .i64 0, .int .u64 0, .bool false], .int .i64 k]) (by simp [results, Tryd.results22, go_sem]) rfl ⟨rfl, ?_⟩
    repeat' first | exact Below.refl _ _ | refine Ext.alloc ?_ _
set_option maxHeartbeats 2000000 in
theorem rresize_any (a b p : Int) (s : Nat) (t : Bool) (m n : Int) (w : World) :
    Calls Tryd.prog 18 #[.agg #[.int .i64 a, .int .i64 b, .int .i64 p, .int .u64 s, .bool t], .int .i64 m, .int .i64 n] w fun e w' => e = .returned (.tuple #[rz3 a b p s t m n, .int .i64 (rze a b p m n)]) ∧ Ext w w' := by
  have c1 : Box _ := ⟨fun w => rcheck_any a b p s t w⟩
  have c2 : Box _ := ⟨fun w => rcheck_any m n p s t w⟩
  unfold rz3 rze
  by_cases h : chk3 a b p = 0
  · by_cases g : chk3 m n p = 0
    · rw [if_pos ⟨h, g⟩, if_pos h]
      rw [h] at c1
      rw [g] at c2 ⊢
      clear h g
      go_enter Tryd.func18, Tryd.ntmps18
      go_wp2_with (first | (go_at_call 8; (with_reducible refine (c1.out _).mono ?_); rintro e w' ⟨rfl, rfl⟩) | (go_at_call 8; (with_reducible refine (c2.out _).mono ?_); rintro e w' ⟨rfl, rfl⟩))
      refine bodyPost_ret (v := .tuple #[.agg #[.int .i64 m, .int .i64 n, .int .i64 p, .int .u64 s, .bool t], .int .i64 0]) (by simp [results, Tryd.results18, go_sem]) rfl ⟨rfl, ?_⟩
      repeat' first | exact Below.refl _ _ | refine Ext.alloc ?_ _
    · rw [if_neg (fun q => g q.2), if_pos h]
      have h1 : (chk3 m n p == 0) = false := by rw [beq_eq_false_iff_ne]; exact g
      have h2 : (chk3 m n p != 0) = true := by rw [bne_iff_ne]; exact g
      rw [h] at c1
      generalize chk3 m n p = k at *
      clear h g
      go_enter Tryd.func18, Tryd.ntmps18
      go_wp2_with (first | (go_at_call 8; (with_reducible refine (c1.out _).mono ?_); rintro e w' ⟨rfl, rfl⟩) | (go_at_call 8; (with_reducible refine (c2.out _).mono ?_); rintro e w' ⟨rfl, rfl⟩))
      refine bodyPost_ret (v := .tuple #[.agg #[.int .i64 0, .int .i64 0, .int .i64 0, .int .u64 0, .bool false], .int .i64 k]) (by simp [results, Tryd.results18, go_sem]) rfl ⟨rfl, ?_⟩
      repeat' first | exact Below.refl _ _ | refine Ext.alloc ?_ _
  · rw [if_neg (fun q => h q.1), if_neg h]
    have h1 : (chk3 a b p == 0) = false := by rw [beq_eq_false_iff_ne]; exact h
    have h2 : (chk3 a b p != 0) = true := by rw [bne_iff_ne]; exact h
    generalize chk3 a b p = k at *
    clear h
    go_enter Tryd.func18, Tryd.ntmps18
    go_wp2_with (first | (go_at_call 8; (with_reducible refine (c1.out _).mono ?_); rintro e w' ⟨rfl, rfl⟩))
    refine bodyPost_ret (v := .tuple #[.agg #[.int .i64 0, .int .i64 0, .int .i64 0, .int .u64 0, .bool false], .int .i64 k]) (by simp [results, Tryd.results18, go_sem]) rfl ⟨rfl, ?_⟩
    repeat' first | exact Below.refl _ _ | refine Ext.alloc ?_ _
end Go.Proofs.YtpojemlnhbdfmaaDoor
