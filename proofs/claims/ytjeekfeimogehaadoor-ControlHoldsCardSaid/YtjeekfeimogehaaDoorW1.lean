import Derived.Test.YtjeekfeimogehaaDoorLib
import Derived.Test.YtjeekfeimogehaaDoorWM
/- Contracts of package word and of its reference, one for each function. -/
namespace Go.Proofs.YtjeekfeimogehaaDoor
open Go.RowKit


/-- What Repeat returns, behind a name. -/
def repI (b : Int) : Int := 72340172838076673 * b
theorem repI_in (b : Int) (h0 : 0 ≤ b) (h1 : b ≤ 255) : 0 ≤ repI b ∧ repI b < 18446744073709551616 := by unfold repI; omega
theorem repI_nat (c : Nat) : repI c = ((72340172838076673 * c : Nat) : Int) := by unfold repI; omega

set_option maxHeartbeats 400000 in
theorem repeat_any (b : Int) (w : World) (h0 : 0 ≤ b) (h1 : b ≤ 255) :
    Calls Tryd.prog 33 #[.int .u8 b] w fun e w' => e = .returned (.int .u64 (repI b)) ∧ w = w' := by
  go_enter Tryd.func33, Tryd.ntmps33
  go_wp2
  go_ret
  exact ⟨rfl, rfl⟩

set_option maxHeartbeats 400000 in
theorem gather_any (b : Int) (w : World) (h0 : 0 ≤ b) (h1 : b < 18446744073709551616) :
    Calls Tryd.prog 43 #[.int .u64 b] w fun e w' => e = .returned (.int .u8 (WM.gatherN b.toNat)) ∧ w = w' := by
  obtain ⟨n, rfl⟩ := Int.eq_ofNat_of_zero_le h0
  rw [Int.toNat_natCast]
  go_enter Tryd.func43, Tryd.ntmps43
  go_wp2
  go_ret
  exact ⟨ret_int (by simp [IntKind.wrap_u64, WM.gatherN]), rfl⟩

theorem xor_all (z : Nat) (hz : z < 18446744073709551616) : 18446744073709551615 ^^^ z = 18446744073709551615 - z := by
  rw [show (18446744073709551615 : Nat) = 2 ^ 64 - 1 from rfl, Nat.xor_comm]
  apply Nat.eq_of_testBit_eq; intro i
  rw [show (2 ^ 64 - 1 - z) = 2 ^ 64 - (z + 1) from by omega, Nat.testBit_two_pow_sub_succ hz, Nat.testBit_xor, Nat.testBit_two_pow_sub_one]
  cases h : decide (i < 64)
  · have : z.testBit i = false := Nat.testBit_lt_two_pow (Nat.lt_of_lt_of_le hz (Nat.pow_le_pow_right (n := 2) (by decide) (by simpa using h)))
    simp [this]
  · simp

theorem match_arg (n r : Nat) (hn : n < 18446744073709551616) (hr : r < 18446744073709551616) :
    bits BinOp.xor IntKind.u64 (if IntKind.u64.signed = true then -1 else IntKind.u64.max)
          (bits BinOp.or IntKind.u64 (bits BinOp.or IntKind.u64
              (IntKind.u64.wrap (bits BinOp.and IntKind.u64 (bits BinOp.xor IntKind.u64 n r) 9187201950435737471 + 9187201950435737471))
              (bits BinOp.xor IntKind.u64 n r)) 9187201950435737471) =
    ((18446744073709551615 - ((((n ^^^ r) &&& 9187201950435737471) + 9187201950435737471) ||| (n ^^^ r) ||| 9187201950435737471) : Nat) : Int) := by
  have hx : n ^^^ r < 18446744073709551616 := Nat.xor_lt_two_pow (n := 64) hn hr
  rw [u64_xor_nat n r hn hr]
  generalize n ^^^ r = x at *
  have ha : x &&& 9187201950435737471 ≤ 9187201950435737471 := Nat.and_le_right
  rw [show bits BinOp.and IntKind.u64 (x : Int) 9187201950435737471 = ((x &&& 9187201950435737471 : Nat) : Int) from u64_and_nat x 9187201950435737471 hx (by decide)]
  generalize x &&& 9187201950435737471 = y at *
  rw [show IntKind.u64.wrap ((y : Int) + 9187201950435737471) = ((y + 9187201950435737471 : Nat) : Int) from by rw [IntKind.wrap_u64]; omega]
  have hy : y + 9187201950435737471 < 18446744073709551616 := by omega
  generalize y + 9187201950435737471 = y1 at *
  rw [u64_or_nat y1 x hy hx]
  have hy2 : y1 ||| x < 18446744073709551616 := Nat.or_lt_two_pow (n := 64) hy hx
  generalize y1 ||| x = y2 at *
  rw [show bits BinOp.or IntKind.u64 (y2 : Int) 9187201950435737471 = ((y2 ||| 9187201950435737471 : Nat) : Int) from u64_or_nat y2 9187201950435737471 hy2 (by decide)]
  have hz : y2 ||| 9187201950435737471 < 18446744073709551616 := Nat.or_lt_two_pow (n := 64) hy2 (by decide)
  generalize y2 ||| 9187201950435737471 = z at *
  rw [show (if IntKind.u64.signed = true then -1 else IntKind.u64.max) = ((18446744073709551615 : Nat) : Int) from rfl, u64_xor_nat 18446744073709551615 z (by decide) hz, xor_all z hz]

set_option maxHeartbeats 400000 in
theorem match_any (W b : Int) (w : World) (h0 : 0 ≤ W) (h1 : W < 18446744073709551616) (h2 : 0 ≤ b) (h3 : b ≤ 255) :
    Calls Tryd.prog 30 #[.int .u64 W, .int .u8 b] w fun e w' => e = .returned (.int .u8 (WM.matchN W.toNat b.toNat)) ∧ w = w' := by
  obtain ⟨n, rfl⟩ := Int.eq_ofNat_of_zero_le h0
  obtain ⟨c, rfl⟩ := Int.eq_ofNat_of_zero_le h2
  simp only [Int.toNat_natCast]
  have hr := repI_in c h2 h3
  have hm := Go.Lib.hid (match_arg n (72340172838076673 * c) (by omega) (by omega))
  have hq := Go.Lib.hid (WM.match_eq n c (by omega) (by omega))
  go_enter Tryd.func30, Tryd.ntmps30
  go_wp2_with (first | (go_at_call 33; refine (repeat_any _ _ (by omega) (by omega)).mono ?_; rintro e w' ⟨rfl, rfl⟩) | (go_at_call 43; rw [repI_nat, hm.out]; refine (gather_any _ _ (by omega) (by omega)).mono ?_; rintro e w' ⟨rfl, rfl⟩; rw [Int.toNat_natCast, hq.out]))
  go_ret
  exact ⟨rfl, rfl⟩

theorem high_arg (n : Nat) (hn : n < 18446744073709551616) :
    bits BinOp.andNot IntKind.u64 (n : Int) 9187201950435737471 = ((n &&& (18446744073709551615 - 9187201950435737471) : Nat) : Int) :=
  u64_andNot_nat n 9187201950435737471 hn (by decide)

set_option maxHeartbeats 400000 in
theorem high_any (W : Int) (w : World) (h0 : 0 ≤ W) (h1 : W < 18446744073709551616) :
    Calls Tryd.prog 32 #[.int .u64 W] w fun e w' => e = .returned (.int .u8 (WM.highN W.toNat)) ∧ w = w' := by
  obtain ⟨n, rfl⟩ := Int.eq_ofNat_of_zero_le h0
  simp only [Int.toNat_natCast]
  have hm := high_arg n (by omega)
  have hq := Go.Lib.hid (WM.high_eq n (by omega))
  have ha : n &&& (18446744073709551615 - 9187201950435737471) ≤ n := Nat.and_le_left
  generalize n &&& (18446744073709551615 - 9187201950435737471) = x at *
  have hm' := Go.Lib.hid hm
  clear hm
  go_enter Tryd.func32, Tryd.ntmps32
  go_wp2_with (go_at_call 43; rw [hm'.out]; refine (gather_any _ _ (by omega) (by omega)).mono ?_; rintro e w' ⟨rfl, rfl⟩; rw [Int.toNat_natCast, hq.out])
  go_ret
  exact ⟨rfl, rfl⟩

theorem lt8_cases (l : Int) (h0 : 0 ≤ l) (h1 : l ≤ 7) : l = 0 ∨ l = 1 ∨ l = 2 ∨ l = 3 ∨ l = 4 ∨ l = 5 ∨ l = 6 ∨ l = 7 := by omega

set_option maxHeartbeats 400000 in
theorem with_bad (W l b : Int) (w : World) (h : l < 0 ∨ 7 < l) :
    Calls Tryd.prog 37 #[.int .u64 W, .int .i64 l, .int .u8 b] w fun e w' => e = .returned (.tuple #[.int .u64 0, .int .i64 3]) ∧ w = w' := by
  rcases h with h | h
  all_goals
    go_enter Tryd.func37, Tryd.ntmps37
    go_wp2
    all_goals (go_ret2; exact ⟨rfl, rfl⟩)

theorem with_arg (n i c : Nat) (hn : n < 18446744073709551616) (hi : i < 8) (hc : c < 256) :
    bits BinOp.or IntKind.u64 (bits BinOp.andNot IntKind.u64 (n : Int) ((255 * 256 ^ i : Nat) : Int)) ((c * 256 ^ i : Nat) : Int) = ((WM.withN n i c : Nat) : Int) := by
  have hp : 256 ^ i ≤ 256 ^ 7 := Nat.pow_le_pow_right (by decide) (by omega)
  have hp' : c * 256 ^ i ≤ 255 * 256 ^ 7 := Nat.mul_le_mul (by omega) hp
  rw [u64_andNot_nat n _ hn (by omega), u64_or_nat _ _ (Nat.lt_of_le_of_lt Nat.and_le_left hn) (by omega), WM.with_eq n i c hn hi hc]

theorem lt8_nat (i : Nat) (h1 : i < 8) : i = 0 ∨ i = 1 ∨ i = 2 ∨ i = 3 ∨ i = 4 ∨ i = 5 ∨ i = 6 ∨ i = 7 := by omega

set_option maxHeartbeats 1000000 in
theorem with_any (W l b : Int) (w : World) (h0 : 0 ≤ W) (h1 : W < 18446744073709551616) (h2 : 0 ≤ l) (h3 : l ≤ 7) (h4 : 0 ≤ b) (h5 : b ≤ 255) :
    Calls Tryd.prog 37 #[.int .u64 W, .int .i64 l, .int .u8 b] w fun e w' => e = .returned (.tuple #[.int .u64 (WM.withN W.toNat l.toNat b.toNat), .int .i64 0]) ∧ ∃ q, w' = w.drewN q := by
  obtain ⟨n, rfl⟩ := Int.eq_ofNat_of_zero_le h0
  obtain ⟨c, rfl⟩ := Int.eq_ofNat_of_zero_le h4
  obtain ⟨i, rfl⟩ := Int.eq_ofNat_of_zero_le h2
  have q := Go.Lib.hid (with_arg n i c (by omega) (by omega) (by omega))
  simp only [Int.toNat_natCast]
  rcases lt8_nat i (by omega) with rfl | rfl | rfl | rfl | rfl | rfl | rfl | rfl
  all_goals
    clear h2 h3
    go_enter Tryd.func37, Tryd.ntmps37
    go_wp2
    go_quiet (fail)
    go_wp2
    go_ret2
    refine ⟨ret_int2 ?_ rfl, ⟨_, rfl⟩⟩
    rw [← q.out]
    simp
end Go.Proofs.YtjeekfeimogehaaDoor
