import Derived.Test.YtcofejbkbcdopaaDoorR4
import Derived.Test.YtcofejbkbcdopaaDoorLD52
import Derived.BigQuiet
import Derived.Deep.QuietTactic
/- Contracts of the law's ratio, per cent and says; of the report's Check. -/
namespace Go.Proofs.YtcofejbkbcdopaaDoor
open Go.RowKit
theorem l_dec (n : Nat) (h : n ≤ 9223372036854775807) (w : World) : Calls Tryd.prog 18 #[.int .i64 n] w fun e w' => e = .returned (.string (digs n)) ∧ Ext w w' := ldec_any n w (by omega)
set_option maxRecDepth 100000 in
set_option maxHeartbeats 4000000 in
theorem lratio_any (a b : Nat) (h : a ≤ b) (hb : b ≤ 1073741824) (w : World) : Calls Tryd.prog 10 #[.int .i64 a, .int .i64 b] w fun e w' => e = .returned (.string ⟨(ratioL a b).toArray⟩) ∧ Ext w w' := by
  by_cases h0 : a = 0
  · subst h0
    rw [show ((0 : Nat) : Int) = 0 from rfl] at *
    have hz : (⟨(ratioL 0 b).toArray⟩ : ByteArray) = ⟨#[48, 47, 49]⟩ := rfl
    rw [hz]
    clear hz
    go_enter Tryd.func10, Tryd.ntmps10
    go_wp2
    go_ret
    exact ⟨rfl, Below.refl _ _⟩
  · have d0 : ((a : Int) == 0) = false := by rw [beq_eq_false_iff_ne]; omega
    have hab : Box (a ≤ b ∧ b ≤ 1073741824 ∧ a ≠ 0) := ⟨⟨h, hb, h0⟩⟩
    have ha := Nat.le_trans h hb
    clear h h0
    go_enter Tryd.func10, Tryd.ntmps10
    go_wp2
    go_loopw [5, 6] (fun x y wr => ∃ p q : Nat, x = .int .i64 p ∧ y = .int .i64 q ∧ p ≤ 1073741824 ∧ q ≤ 1073741824 ∧ Box (Nat.gcd p q = Nat.gcd a b) ∧ Ext w wr) (fun _ y _ => (intOf y).toNat)
    case atStart => exact ⟨b, a, rfl, rfl, hb, ha, ⟨Nat.gcd_comm b a⟩, Below.refl _ _⟩
    case round =>
      obtain ⟨p, q, rfl, rfl, hp, hq, hg, hx⟩ := hrel
      by_cases hq0 : q = 0
      · subst hq0
        obtain ⟨h, hb', h0⟩ := hab.out
        have hpg : p = Nat.gcd a b := by rw [← hg.out, Nat.gcd_zero_right]
        subst hpg
        have hgp : 0 < Nat.gcd a b := Nat.gcd_pos_of_pos_left _ (by omega)
        have hq1 : a / Nat.gcd a b ≤ a := Nat.div_le_self _ _
        have hq2 : b / Nat.gcd a b ≤ b := Nat.div_le_self _ _
        have hfin : (⟨(ratioL a b).toArray⟩ : ByteArray) = digs (a / Nat.gcd a b) ++ ⟨#[47]⟩ ++ digs (b / Nat.gcd a b) := by
          apply str_ext
          simp [ratioL, h0, digs, dd, ByteArray.data_append]
        replace hfin := Box.mk hfin
        have c1 : Box _ := ⟨fun w => l_dec (a / Nat.gcd a b) (by omega) w⟩
        have c2 : Box _ := ⟨fun w => l_dec (b / Nat.gcd a b) (by omega) w⟩
        have e1 := tdiv_nat a (Nat.gcd a b)
        have e2 := tdiv_nat b (Nat.gcd a b)
        have z1 := digs_le (a / Nat.gcd a b) (by omega)
        have z2 := digs_le (b / Nat.gcd a b) (by omega)
        generalize a / Nat.gcd a b = x at *
        generalize b / Nat.gcd a b = y at *
        generalize Nat.gcd a b = g at *
        have u1 : IntKind.i64.wrap (x : Int) = (x : Int) := by rw [IntKind.wrap_i64]; omega
        have u2 : IntKind.i64.wrap (y : Int) = (y : Int) := by rw [IntKind.wrap_i64]; omega
        have g0 : ((g : Int) == 0) = false := by rw [beq_eq_false_iff_ne]; omega
        have g1 : ¬ (g : Int) = 0 := by omega
        have g2 : ¬ g = 0 := by omega
        generalize digs x = s1 at *
        generalize digs y = s2 at *
        have k1 : ¬ 9223372036854775807 < s1.size + 1 := by omega
        have k2 : ¬ 9223372036854775807 < s1.size + 1 + s2.size := by omega
        clear h hb' hb ha hp hq hq1 hq2 h0 hg hab
        go_wp2
        replace hx := Ext.drew1 hx
        go_region_held3 (fun _ => True)
          (first
            | go_keep
            | trivial)
          (first
            | (go_at_call 18; (with_reducible refine (c1.out _).mono ?_); rintro e w1 ⟨rfl, hb1⟩; replace hx := Ext.trans' hx hb1)
            | (go_at_call 18; (with_reducible refine (c2.out _).mono ?_); rintro e w1 ⟨rfl, hb1⟩; replace hx := Ext.trans' hx hb1))
        all_goals
          go_wp2
          go_ret
          rw [hfin.out]
          exact ⟨rfl, hx⟩
      · have d1 : decide (0 < (q : Int)) = true := decide_eq_true (by omega)
        have e1 := tmod_nat p q
        have e2 : (p : Int) % (q : Int) = ((p % q : Nat) : Int) := (Int.natCast_emod _ _).symm
        have hm : p % q < q := Nat.mod_lt _ (by omega)
        have hg2 : Box (Nat.gcd q (p % q) = Nat.gcd a b) := ⟨by rw [← hg.out, Nat.gcd_comm p q, Nat.gcd_rec q p, Nat.gcd_comm]⟩
        generalize p % q = r at *
        clear hg
        go_wp2
        go_quiet (fail)
        go_wp2
        go_roundw
        case rel => exact ⟨q, r, rfl, rfl, hq, by omega, hg2, Ext.drewN hx _⟩
        case measure => simp [intOf]; omega
set_option maxRecDepth 100000 in
set_option maxHeartbeats 4000000 in
theorem lpercent_any (a b : Nat) (h : a ≤ b) (hb : b ≤ 1073741824) (w : World) : Calls Tryd.prog 11 #[.int .i64 a, .int .i64 b] w fun e w' => e = .returned (.string ⟨(percentL a b).toArray⟩) ∧ Ext w w' := by
  by_cases hb0 : b = 0
  · obtain rfl : a = 0 := by omega
    subst hb0
    rw [show ((0 : Nat) : Int) = 0 from rfl] at *
    have hz : (⟨(percentL 0 0).toArray⟩ : ByteArray) = ⟨#[48, 46, 48, 48, 37]⟩ := by
      have e : dd 0 = [48] := by unfold dd; rw [Lib.decDigits, dif_pos (by decide)]; rfl
      simp [percentL, perN, e]
    rw [hz]
    clear hz
    go_enter Tryd.func11, Tryd.ntmps11
    go_wp2
    go_ret
    exact ⟨rfl, Below.refl _ _⟩
  · have hn := perN_le a b h
    have hl := perN_law a b (by omega)
    have hfin : (⟨(percentL a b).toArray⟩ : ByteArray) = digs (perN a b / 100) ++ ⟨#[46]⟩ ++ digs (perN a b / 10 % 10) ++ digs (perN a b % 10) ++ ⟨#[37]⟩ := by
      apply str_ext
      simp [percentL, digs, dd, ByteArray.data_append]
    rw [hfin]
    clear hfin
    have c1 : Box _ := ⟨fun w => l_dec (perN a b / 100) (by omega) w⟩
    have c2 : Box _ := ⟨fun w => l_dec (perN a b / 10 % 10) (by omega) w⟩
    have c3 : Box _ := ⟨fun w => l_dec (perN a b % 10) (by omega) w⟩
    have z1 := digs_le (perN a b / 100) (by omega)
    have z2 := digs_le (perN a b / 10 % 10) (by omega)
    have z3 := digs_le (perN a b % 10) (by omega)
    have e1 : ((perN a b : Nat) : Int).tdiv 100 = ((perN a b / 100 : Nat) : Int) := tdiv_nat _ 100
    have e2 : ((perN a b : Nat) : Int).tdiv 10 = ((perN a b / 10 : Nat) : Int) := tdiv_nat _ 10
    have e3 : ((perN a b / 10 : Nat) : Int).tmod 10 = ((perN a b / 10 % 10 : Nat) : Int) := tmod_nat _ 10
    have e4 : ((perN a b : Nat) : Int).tmod 10 = ((perN a b % 10 : Nat) : Int) := tmod_nat _ 10
    have f1 : ((10000 * a : Nat) : Int).tdiv (b : Int) = ((10000 * a / b : Nat) : Int) := tdiv_nat _ b
    have f2 : ((10000 * a : Nat) : Int).tmod (b : Int) = ((10000 * a % b : Nat) : Int) := tmod_nat _ b
    have hm : 10000 * a % b < b := Nat.mod_lt _ (by omega)
    have hd : 10000 * a / b ≤ 10000 := by rw [hl] at hn; omega
    generalize hq : perN a b / 10 % 10 = q2 at *
    clear hq
    generalize hq : perN a b / 10 = q5 at *
    clear hq
    generalize hq : perN a b / 100 = q1 at *
    clear hq
    generalize hq : perN a b % 10 = q3 at *
    clear hq
    generalize perN a b = n at *
    generalize 10000 * a / b = m at *
    generalize 10000 * a % b = r at *
    generalize digs q1 = s1 at *
    generalize digs q2 = s2 at *
    generalize digs q3 = s3 at *
    have k1 : ¬ 9223372036854775807 < s1.size + 1 := by omega
    have k2 : ¬ 9223372036854775807 < s1.size + 1 + s2.size := by omega
    have k3 : ¬ 9223372036854775807 < s1.size + 1 + s2.size + s3.size := by omega
    have k4 : ¬ 9223372036854775807 < s1.size + 1 + s2.size + s3.size + 1 := by omega
    have i1 : (n : Int) / 100 = (q1 : Int) := by rw [← e1, Int.tdiv_eq_ediv_of_nonneg (by omega)]
    have i2 : (n : Int) / 10 = (q5 : Int) := by rw [← e2, Int.tdiv_eq_ediv_of_nonneg (by omega)]
    have i3 : (q5 : Int) % 10 = (q2 : Int) := by rw [← e3, Int.tmod_eq_emod_of_nonneg (by omega)]
    have i4 : (n : Int) % 10 = (q3 : Int) := by rw [← e4, Int.tmod_eq_emod_of_nonneg (by omega)]
    have ec : ((10000 * a : Nat) : Int) = (10000 : Int) * (a : Int) := by omega
    rw [ec] at f1 f2
    have j1 : (10000 : Int) * (a : Int) / (b : Int) = (m : Int) := by rw [← f1, Int.tdiv_eq_ediv_of_nonneg (by omega)]
    have j2 : (10000 : Int) * (a : Int) % (b : Int) = (r : Int) := by rw [← f2, Int.tmod_eq_emod_of_nonneg (by omega)]
    have d0 : ((b : Int) == 0) = false := by rw [beq_eq_false_iff_ne]; omega
    have n2 : ¬ (b : Int) = 0 := by omega
    have a1 : (a : Int) ≤ 1073741824 := by omega
    have a2 : (b : Int) ≤ 1073741824 := by omega
    have w1 : IntKind.i64.wrap (10000 * (a : Int)) = 10000 * (a : Int) := by rw [IntKind.wrap_i64]; omega
    have w3 : IntKind.i64.wrap (2 * (r : Int)) = 2 * (r : Int) := by rw [IntKind.wrap_i64]; omega
    have w4 : IntKind.i64.wrap (m : Int) = (m : Int) := by rw [IntKind.wrap_i64]; omega
    have w5 : IntKind.i64.wrap ((m : Int) + 1) = (m : Int) + 1 := by rw [IntKind.wrap_i64]; omega
    have hx : Ext w w := Below.refl _ _
    have key : (decide ((b : Int) ≤ 2 * (r : Int)) = true ∧ (m : Int) + 1 = (n : Int)) ∨ (decide ((b : Int) ≤ 2 * (r : Int)) = false ∧ m = n) := by
      by_cases hc : b ≤ 2 * r
      · rw [if_pos hc] at hl
        exact Or.inl ⟨decide_eq_true (by omega), by omega⟩
      · rw [if_neg hc] at hl
        exact Or.inr ⟨decide_eq_false (by omega), by omega⟩
    have b1 : (n : Int) ≤ 10000 := by omega
    have b2 : (q1 : Int) ≤ 10000 := by omega
    have b3 : (q5 : Int) ≤ 10000 := by omega
    have b4 : (m : Int) ≤ 10000 := by omega
    have n3 : ¬ b = 0 := hb0
    have n4 : 0 < b := by omega
    clear hb h hn hl hm hd ec hb0
    rcases key with ⟨d1, hmn⟩ | ⟨d1, rfl⟩
    all_goals
      go_enter Tryd.func11, Tryd.ntmps11
      go_wp2_with (first
        | (go_at_call 18; (with_reducible refine (c1.out _).mono ?_); rintro e w1 ⟨rfl, hb1⟩; replace hx := Ext.trans' hx hb1)
        | (go_at_call 18; (with_reducible refine (c2.out _).mono ?_); rintro e w1 ⟨rfl, hb1⟩; replace hx := Ext.trans' hx hb1)
        | (go_at_call 18; (with_reducible refine (c3.out _).mono ?_); rintro e w1 ⟨rfl, hb1⟩; replace hx := Ext.trans' hx hb1))
      go_ret
      exact ⟨rfl, hx⟩
theorem ratioL_ne (a b : Nat) : ratioL a b ≠ [] := by
  unfold ratioL
  split
  · simp
  · intro e
    have := congrArg List.length e
    simp at this
set_option maxRecDepth 100000 in
set_option maxHeartbeats 4000000 in
theorem says_bad (a b : Int) (h : hasB a b = false) (w : World) : Calls Tryd.prog 8 #[.int .i64 a, .int .i64 b, .string ⟨#[]⟩, .string ⟨#[]⟩] w fun e w' => e = .returned (.bool true) ∧ Ext w w' := by
  have c1 : Box _ := ⟨fun w => ratio_bad a b w h⟩
  have c2 : Box _ := ⟨fun w => percent_bad a b w h⟩
  clear h
  go_enter Tryd.func8, Tryd.ntmps8
  go_wp2_with (first
    | (go_at_call 22; (with_reducible refine (c1.out _).mono ?_); rintro e w' ⟨rfl, rfl⟩)
    | (go_at_call 23; (with_reducible refine (c2.out _).mono ?_); rintro e w' ⟨rfl, rfl⟩))
  go_ret
  exact ⟨rfl, Below.refl _ _⟩
set_option maxRecDepth 100000 in
set_option maxHeartbeats 4000000 in
theorem says_ok (a b : Nat) (h : a ≤ b) (hb : b ≤ 1073741824) (w : World) (ht : Tabs w) (r p : ByteArray) (hr : r = ⟨(ratioL a b).toArray⟩) (hp : p = ⟨(percentL a b).toArray⟩) :
    Calls Tryd.prog 8 #[.int .i64 a, .int .i64 b, .string r, .string p] w fun e w' => e = .returned (.bool true) ∧ Ext w w' := by
  have c1 : Box (∀ w', Ext w w' → _) := ⟨fun w' hx => ratio_ok a b h hb w' (ht.ext hx)⟩
  have c2 : Box (∀ w', Ext w w' → _) := ⟨fun w' hx => percent_ok a b h hb w' (ht.ext hx)⟩
  rw [← hr] at c1
  rw [← hp] at c2
  have r0 : r.data.toList ≠ [] := by rw [hr]; exact ratioL_ne a b
  have r1 : (r.toList == ([] : List UInt8)) = false := by rw [Lib.toList_data, beq_eq_false_iff_ne]; exact r0
  have r2 : ¬ r.toList = [] := by rw [Lib.toList_data]; exact r0
  have r3 : (!r.toList.isEmpty) = true := by simpa using r2
  have hx : Ext w w := Below.refl _ _
  clear h hb ht hr hp r0
  go_enter Tryd.func8, Tryd.ntmps8
  go_wp2_with (first
    | (go_at_call 22; (with_reducible refine (c1.out _ hx).mono ?_); rintro e w1 ⟨rfl, hb1⟩; replace hx := Ext.trans' hx hb1)
    | (go_at_call 23; (with_reducible refine (c2.out _ hx).mono ?_); rintro e w1 ⟨rfl, hb1⟩; replace hx := Ext.trans' hx hb1))
  go_ret
  exact ⟨rfl, hx⟩
end Go.Proofs.YtcofejbkbcdopaaDoor
