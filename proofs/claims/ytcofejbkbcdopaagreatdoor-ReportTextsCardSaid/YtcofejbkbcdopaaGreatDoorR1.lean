import Derived.Test.YtcofejbkbcdopaaGreatDoorRE
import Derived.Test.YtcofejbkbcdopaaGreatDoorRS
/- Contracts of the report's Ratio and Percent. -/
namespace Go.Proofs.YtcofejbkbcdopaaGreatDoor
open Go.RowKit
theorem digs_le (n : Nat) (h : n < 18446744073709551616) : (digs n).size ≤ 20 := digs_size n h
theorem str_ext {s t : ByteArray} (h : s.data.toList = t.data.toList) : s = t := by
  apply ByteArray.ext; apply Array.ext'; exact h
theorem gcd_pos' {a b : Nat} (h : a ≠ 0) : 0 < Nat.gcd a b := Nat.gcd_pos_of_pos_left _ (by omega)
set_option maxRecDepth 100000 in
set_option maxHeartbeats 4000000 in
theorem ratio_bad (a b : Int) (w : World) (h : hasB a b = false) : Calls Tryz.prog 31 #[.int .i64 a, .int .i64 b] w fun e w' => e = .returned (.tuple #[.string ⟨#[]⟩, .int .i64 2]) ∧ w = w' := by
  have ch : Box _ := ⟨fun w => has_any a b w⟩
  rw [h] at ch
  clear h
  go_enter Tryz.func31, Tryz.ntmps31
  go_wp2_with (go_at_call 45; (with_reducible refine (ch.out _).mono ?_); rintro e w' ⟨rfl, rfl⟩)
  go_ret2
  exact ⟨rfl, rfl⟩
set_option maxRecDepth 100000 in
set_option maxHeartbeats 4000000 in
theorem ratio_ok (a b : Nat) (h : a ≤ b) (hb : b ≤ 1073741824) (w : World) (ht : Tabs w) :
    Calls Tryz.prog 31 #[.int .i64 a, .int .i64 b] w fun e w' => e = .returned (.tuple #[.string ⟨(ratioL a b).toArray⟩, .int .i64 0]) ∧ Ext w w' := by
  have ch : Box _ := ⟨fun w => has_any a b w⟩
  rw [(hasB_iff a b).2 ⟨by omega, by omega, by omega⟩] at ch
  by_cases h0 : a = 0
  · subst h0
    rw [show ((0 : Nat) : Int) = 0 from rfl] at *
    have hz : (⟨(ratioL 0 b).toArray⟩ : ByteArray) = ⟨#[48, 47, 49]⟩ := rfl
    rw [hz]
    clear hz
    go_enter Tryz.func31, Tryz.ntmps31
    go_wp2_with (go_at_call 45; (with_reducible refine (ch.out _).mono ?_); rintro e w' ⟨rfl, rfl⟩)
    go_ret2
    exact ⟨rfl, Below.refl _ _⟩
  · have hg := gcd_pos' (b := b) h0
    have hq1 : a / Nat.gcd a b ≤ a := Nat.div_le_self _ _
    have hq2 : b / Nat.gcd a b ≤ b := Nat.div_le_self _ _
    have hfin : (⟨(ratioL a b).toArray⟩ : ByteArray) = digs (a / Nat.gcd a b) ++ ⟨#[47]⟩ ++ digs (b / Nat.gcd a b) := by
      apply str_ext
      simp [ratioL, h0, digs, dd, ByteArray.data_append]
    rw [hfin]
    have cd : Box (∀ w, _) := ⟨fun w => divisor_any b a b w (Nat.le_refl _) (by omega) hb⟩
    rw [Nat.gcd_comm b a] at cd
    have c1 : Box (∀ w', Ext w w' → _) := ⟨fun w' hx => ritoa_any (a / Nat.gcd a b) (by omega) w' (ht.ext hx)⟩
    have c2 : Box (∀ w', Ext w w' → _) := ⟨fun w' hx => ritoa_any (b / Nat.gcd a b) (by omega) w' (ht.ext hx)⟩
    have e1 := tdiv_nat a (Nat.gcd a b)
    have e2 := tdiv_nat b (Nat.gcd a b)
    have z1 := digs_le (a / Nat.gcd a b) (by omega)
    have z2 := digs_le (b / Nat.gcd a b) (by omega)
    have d0 : ((a : Int) == 0) = false := by rw [beq_eq_false_iff_ne]; omega
    have hx : Ext w w := Below.refl _ _
    generalize a / Nat.gcd a b = x at *
    generalize b / Nat.gcd a b = y at *
    generalize Nat.gcd a b = g at *
    have u1 : IntKind.i64.wrap (x : Int) = (x : Int) := by rw [IntKind.wrap_i64]; omega
    have u2 : IntKind.i64.wrap (y : Int) = (y : Int) := by rw [IntKind.wrap_i64]; omega
    have g0 : ((g : Int) == 0) = false := by rw [beq_eq_false_iff_ne]; omega
    have g1 : ¬ (g : Int) = 0 := by omega
    have g2 : ¬ g = 0 := by omega
    have g3 : 0 < g := by omega
    generalize digs x = s1 at *
    generalize digs y = s2 at *
    have k1 : ¬ 9223372036854775807 < s1.size + 1 := by omega
    have k2 : ¬ 9223372036854775807 < s1.size + 1 + s2.size := by omega
    clear hfin ht h hb hq1 hq2 hg h0
    go_enter Tryz.func31, Tryz.ntmps31
    go_wp2_with (first
      | (go_at_call 45; (with_reducible refine (ch.out _).mono ?_); rintro e w' ⟨rfl, rfl⟩)
      | (go_at_call 46; (with_reducible refine (cd.out _).mono ?_); rintro e w' ⟨rfl, rfl⟩))
    have hx := Ext.drew1 hx
    go_region_held3 (fun _ => True)
      (first
        | go_keep
        | trivial)
      (first
        | (go_at_call 20; (with_reducible refine (c1.out _ hx).mono ?_); rintro e w1 ⟨rfl, hb1⟩; have hx := Ext.trans' hx hb1)
        | (go_at_call 20; (with_reducible refine (c2.out _ hx).mono ?_); rintro e w1 ⟨rfl, hb1⟩; have hx := Ext.trans' hx hb1))
    all_goals
      go_wp2
      go_ret2
      exact ⟨rfl, hx⟩
set_option maxRecDepth 100000 in
set_option maxHeartbeats 4000000 in
theorem percent_bad (a b : Int) (w : World) (h : hasB a b = false) : Calls Tryz.prog 32 #[.int .i64 a, .int .i64 b] w fun e w' => e = .returned (.tuple #[.string ⟨#[]⟩, .int .i64 2]) ∧ w = w' := by
  have ch : Box _ := ⟨fun w => has_any a b w⟩
  rw [h] at ch
  clear h
  go_enter Tryz.func32, Tryz.ntmps32
  go_wp2_with (go_at_call 45; (with_reducible refine (ch.out _).mono ?_); rintro e w' ⟨rfl, rfl⟩)
  go_ret2
  exact ⟨rfl, rfl⟩
set_option maxRecDepth 100000 in
set_option maxHeartbeats 4000000 in
theorem percent_ok (a b : Nat) (h : a ≤ b) (hb : b ≤ 1073741824) (w : World) (ht : Tabs w) :
    Calls Tryz.prog 32 #[.int .i64 a, .int .i64 b] w fun e w' => e = .returned (.tuple #[.string ⟨(percentL a b).toArray⟩, .int .i64 0]) ∧ Ext w w' := by
  have ch : Box _ := ⟨fun w => has_any a b w⟩
  rw [(hasB_iff a b).2 ⟨by omega, by omega, by omega⟩] at ch
  by_cases hb0 : b = 0
  · obtain rfl : a = 0 := by omega
    subst hb0
    have c0 : Box (∀ w', Ext w w' → _) := ⟨fun w' hx => ritoa_any 0 (by omega) w' (ht.ext hx)⟩
    rw [show ((0 : Nat) : Int) = 0 from rfl] at *
    have hfin : (⟨(percentL 0 0).toArray⟩ : ByteArray) = digs 0 ++ ⟨#[46]⟩ ++ digs 0 ++ digs 0 ++ ⟨#[37]⟩ := by
      apply str_ext
      simp [percentL, perN, digs, dd, ByteArray.data_append]
    rw [hfin]
    clear hfin
    have z0 := digs_le 0 (by omega)
    have hx : Ext w w := Below.refl _ _
    generalize digs 0 = s0 at *
    have k1 : ¬ 9223372036854775807 < s0.size + 1 := by omega
    have k2 : ¬ 9223372036854775807 < s0.size + 1 + s0.size := by omega
    have k3 : ¬ 9223372036854775807 < s0.size + 1 + s0.size + s0.size := by omega
    have k4 : ¬ 9223372036854775807 < s0.size + 1 + s0.size + s0.size + 1 := by omega
    clear ht hb h
    go_enter Tryz.func32, Tryz.ntmps32
    go_wp2_with (first
      | (go_at_call 45; (with_reducible refine (ch.out _).mono ?_); rintro e w' ⟨rfl, rfl⟩)
      | (go_at_call 20; (with_reducible refine (c0.out _ hx).mono ?_); rintro e w1 ⟨rfl, hb1⟩; have hx := Ext.trans' hx hb1))
    go_ret2
    exact ⟨rfl, hx⟩
  have hn := perN_le a b h
  have hfin : (⟨(percentL a b).toArray⟩ : ByteArray) = digs (perN a b / 100) ++ ⟨#[46]⟩ ++ digs (perN a b / 10 % 10) ++ digs (perN a b % 10) ++ ⟨#[37]⟩ := by
    apply str_ext
    simp [percentL, digs, dd, ByteArray.data_append]
  rw [hfin]
  clear hfin
  have c1 : Box (∀ w', Ext w w' → _) := ⟨fun w' hx => ritoa_any (perN a b / 100) (by omega) w' (ht.ext hx)⟩
  have c2 : Box (∀ w', Ext w w' → _) := ⟨fun w' hx => ritoa_any (perN a b / 10 % 10) (by omega) w' (ht.ext hx)⟩
  have c3 : Box (∀ w', Ext w w' → _) := ⟨fun w' hx => ritoa_any (perN a b % 10) (by omega) w' (ht.ext hx)⟩
  have z1 := digs_le (perN a b / 100) (by omega)
  have z2 := digs_le (perN a b / 10 % 10) (by omega)
  have z3 := digs_le (perN a b % 10) (by omega)
  have e1 : ((perN a b : Nat) : Int).tdiv 100 = ((perN a b / 100 : Nat) : Int) := tdiv_nat _ 100
  have e2 : ((perN a b : Nat) : Int).tdiv 10 = ((perN a b / 10 : Nat) : Int) := tdiv_nat _ 10
  have e3 : ((perN a b / 10 : Nat) : Int).tmod 10 = ((perN a b / 10 % 10 : Nat) : Int) := tmod_nat _ 10
  have e4 : ((perN a b : Nat) : Int).tmod 10 = ((perN a b % 10 : Nat) : Int) := tmod_nat _ 10
  have u1 : IntKind.i64.wrap ((perN a b / 100 : Nat) : Int) = ((perN a b / 100 : Nat) : Int) := by rw [IntKind.wrap_i64]; omega
  have u2 : IntKind.i64.wrap ((perN a b / 10 : Nat) : Int) = ((perN a b / 10 : Nat) : Int) := by rw [IntKind.wrap_i64]; omega
  have hcase : 0 < b ∧ ((20000 * a + b : Nat) : Int).tdiv ((2 * b : Nat) : Int) = ((perN a b : Nat) : Int) := by
    refine ⟨by omega, ?_⟩
    rw [tdiv_nat]; unfold perN; rw [if_neg hb0]
  generalize hq : perN a b / 10 % 10 = q2 at *
  clear hq
  generalize hq : perN a b / 10 = q5 at *
  clear hq
  generalize hq : perN a b / 100 = q1 at *
  clear hq
  generalize hq : perN a b % 10 = q3 at *
  clear hq
  generalize perN a b = n at *
  generalize digs q1 = s1 at *
  generalize digs q2 = s2 at *
  generalize digs q3 = s3 at *
  have k1 : ¬ 9223372036854775807 < s1.size + 1 := by omega
  have k2 : ¬ 9223372036854775807 < s1.size + 1 + s2.size := by omega
  have k3 : ¬ 9223372036854775807 < s1.size + 1 + s2.size + s3.size := by omega
  have k4 : ¬ 9223372036854775807 < s1.size + 1 + s2.size + s3.size + 1 := by omega
  have hx : Ext w w := Below.refl _ _
  have i1 : (n : Int) / 100 = (q1 : Int) := by rw [← e1, Int.tdiv_eq_ediv_of_nonneg (by omega)]
  have i2 : (n : Int) / 10 = (q5 : Int) := by rw [← e2, Int.tdiv_eq_ediv_of_nonneg (by omega)]
  have i3 : (q5 : Int) % 10 = (q2 : Int) := by rw [← e3, Int.tmod_eq_emod_of_nonneg (by omega)]
  have i4 : (n : Int) % 10 = (q3 : Int) := by rw [← e4, Int.tmod_eq_emod_of_nonneg (by omega)]
  obtain ⟨h0, e0⟩ := hcase
  have d1 : decide (0 < (b : Int)) = true := decide_eq_true (by omega)
  have u5 : IntKind.i64.wrap (q5 : Int) = (q5 : Int) := by rw [IntKind.wrap_i64]; omega
  have e1' : ((20000 : Int) * (a : Int) + (b : Int)).tdiv (2 * (b : Int)) = (n : Int) := by rw [← e0]; congr 1 <;> omega
  have e2' : ((20000 : Int) * (a : Int) + (b : Int)) / (2 * (b : Int)) = (n : Int) := by rw [← e1', Int.tdiv_eq_ediv_of_nonneg (by omega)]
  have w1 : IntKind.i64.wrap (20000 * (a : Int)) = 20000 * (a : Int) := by rw [IntKind.wrap_i64]; omega
  have w2 : IntKind.i64.wrap (20000 * (a : Int) + (b : Int)) = 20000 * (a : Int) + (b : Int) := by rw [IntKind.wrap_i64]; omega
  have w3 : IntKind.i64.wrap (2 * (b : Int)) = 2 * (b : Int) := by rw [IntKind.wrap_i64]; omega
  have u0 : IntKind.i64.wrap (n : Int) = (n : Int) := by rw [IntKind.wrap_i64]; omega
  have n0 : ¬ (2 * (b : Int)) = 0 := by omega
  have n1 : ((2 * (b : Int)) == 0) = false := by rw [beq_eq_false_iff_ne]; omega
  have n2 : ¬ b = 0 := by omega
  have a1 : (a : Int) ≤ 1073741824 := by omega
  have a2 : (b : Int) ≤ 1073741824 := by omega
  clear ht hb h h0 hn e0
  go_enter Tryz.func32, Tryz.ntmps32
  go_wp2_with (first
    | (go_at_call 45; (with_reducible refine (ch.out _).mono ?_); rintro e w' ⟨rfl, rfl⟩)
    | (go_at_call 20; (with_reducible refine (c1.out _ hx).mono ?_); rintro e w1 ⟨rfl, hb1⟩; have hx := Ext.trans' hx hb1)
    | (go_at_call 20; (with_reducible refine (c2.out _ hx).mono ?_); rintro e w1 ⟨rfl, hb1⟩; have hx := Ext.trans' hx hb1)
    | (go_at_call 20; (with_reducible refine (c3.out _ hx).mono ?_); rintro e w1 ⟨rfl, hb1⟩; have hx := Ext.trans' hx hb1))
  go_ret2
  exact ⟨rfl, hx⟩
end Go.Proofs.YtcofejbkbcdopaaGreatDoor
