import Derived.Test.YtjeekfeimogehaaDoorW1
/- Contracts of package word and of its reference: arrays of eight bytes, Load, With. -/
namespace Go.Proofs.YtjeekfeimogehaaDoor
open Go.RowKit


def A8 (l : Nat → Nat) : Value := .agg #[.int .u8 (l 0), .int .u8 (l 1), .int .u8 (l 2), .int .u8 (l 3), .int .u8 (l 4), .int .u8 (l 5), .int .u8 (l 6), .int .u8 (l 7)]

theorem div_pow_succ (W k : Nat) : ((W / 256 ^ (k+1) : Nat) : Int) = ((W / 256 ^ k : Nat) : Int) / 256 := by
  rw [Nat.pow_succ, ← Nat.div_div_eq_div_mul]; rfl

set_option maxHeartbeats 400000 in
theorem refLane_any (W l : Int) (w : World) (h0 : 0 ≤ W) (h1 : W < 18446744073709551616) (h2 : 0 ≤ l) (h3 : l < 100) :
    Calls Tryd.prog 27 #[.int .u64 W, .int .i64 l] w fun e w' => e = .returned (.int .u8 (WM.lane W.toNat l.toNat)) ∧ w = w' := by
  obtain ⟨W, rfl⟩ := Int.eq_ofNat_of_zero_le h0
  obtain ⟨n, rfl⟩ := Int.eq_ofNat_of_zero_le h2
  simp only [Int.toNat_natCast]
  go_enter Tryd.func27, Tryd.ntmps27
  go_wp2
  go_loop [0, 5] (fun x i => ∃ k : Nat, k ≤ n ∧ i = .int .i64 k ∧ x = .int .u64 ((W / 256 ^ k : Nat) : Int)) (fun _ i => n - (intOf i).toNat)
  case atStart => exact ⟨0, Nat.zero_le _, rfl, by simp⟩
  case round =>
    obtain ⟨k, hk, rfl, rfl⟩ := hrel
    have hb : W / 256 ^ k ≤ W := Nat.div_le_self _ _
    by_cases hlt : k < n
    · have hs := Go.Lib.hid (div_pow_succ W k)
      generalize W / 256 ^ k = x at *
      go_wp2
      go_round
      case rel => exact ⟨k + 1, by omega, by go_num, by rw [hs.out]⟩
      case measure => simp [intOf]; omega
    · obtain rfl : k = n := by omega
      have hs : Hid (WM.lane W k = W / 256 ^ k % 256) := rfl
      generalize W / 256 ^ k = x at *
      go_wp2
      go_ret
      exact ⟨ret_int (by rw [hs.out]; rfl), rfl⟩

set_option maxHeartbeats 1000000 in
theorem of_any (l : Nat → Nat) (w : World) (hl : ∀ i, l i < 256) :
    Calls Tryd.prog 34 #[A8 l] w fun e w' => e = .returned (.int .u64 (WM.of8 l)) ∧ Below w.heap.size w w' := by
  have h0 := hl 0; have h1 := hl 1; have h2 := hl 2; have h3 := hl 3; have h4 := hl 4; have h5 := hl 5; have h6 := hl 6; have h7 := hl 7
  clear hl
  unfold A8 WM.of8
  generalize l 0 = l0 at *; generalize l 1 = l1 at *; generalize l 2 = l2 at *; generalize l 3 = l3 at *
  generalize l 4 = l4 at *; generalize l 5 = l5 at *; generalize l 6 = l6 at *; generalize l 7 = l7 at *
  go_enter Tryd.func34, Tryd.ntmps34
  go_wp2
  go_rounds 9
  go_ret
  exact ⟨ret_int (by omega), (Below.refl _ _).alloc (Nat.le_refl _) _⟩

set_option maxHeartbeats 1000000 in
theorem refBytes_any (W : Int) (w : World) (h0 : 0 ≤ W) (h : W < 18446744073709551616) :
    Calls Tryd.prog 28 #[.int .u64 W] w fun e w' => e = .returned (A8 (WM.lane W.toNat)) ∧ Below w.heap.size w w' := by
  go_enter Tryd.func28, Tryd.ntmps28
  go_wp2
  refine wp_loop_rounds 9 ?_
  repeat any_goals (rw [rounds_succ]; go_wp2_with (go_at_call 27; refine (refLane_any _ _ _ (by omega) (by omega) (by omega) (by omega)).mono ?_; rintro e w' ⟨rfl, rfl⟩))
  exact bodyPost_ret (v := A8 (WM.lane W.toNat)) (by simp [results, Tryd.results28, go_sem]; rfl) rfl ⟨rfl, by go_grown⟩

set_option maxHeartbeats 1000000 in
theorem bytes_any (W : Int) (w : World) (h0 : 0 ≤ W) (h : W < 18446744073709551616) :
    Calls Tryd.prog 39 #[.int .u64 W] w fun e w' => e = .returned (A8 (WM.lane W.toNat)) ∧ Below w.heap.size w w' := by
  obtain ⟨n, rfl⟩ := Int.eq_ofNat_of_zero_le h0
  rw [Int.toNat_natCast]
  go_enter Tryd.func39, Tryd.ntmps39
  go_wp2
  go_rounds 9
  exact bodyPost_ret (v := A8 (WM.lane n)) (by simp [results, Tryd.results39, go_sem]; simp [A8, WM.lane]; omega) rfl ⟨rfl, by go_grown⟩

theorem load_form (l : Nat → Nat) (hl : ∀ i, l i < 256) :
    bits BinOp.or IntKind.u64 (bits BinOp.or IntKind.u64 (bits BinOp.or IntKind.u64 (bits BinOp.or IntKind.u64 (bits BinOp.or IntKind.u64 (bits BinOp.or IntKind.u64
      (bits BinOp.or IntKind.u64 (bits BinOp.or IntKind.u64 0 (l 0)) ((l 1 : Int) * 256)) ((l 2 : Int) * 65536)) ((l 3 : Int) * 16777216)) ((l 4 : Int) * 4294967296)) ((l 5 : Int) * 1099511627776)) ((l 6 : Int) * 281474976710656)) ((l 7 : Int) * 72057594037927936) = (WM.of8 l : Int) := by
  have hor : ∀ (a b : Nat), a < 18446744073709551616 → b < 18446744073709551616 → a ||| b < 18446744073709551616 := fun a b ha hb => Nat.or_lt_two_pow (n := 64) ha hb
  have h0 := hl 0; have h1 := hl 1; have h2 := hl 2; have h3 := hl 3; have h4 := hl 4; have h5 := hl 5; have h6 := hl 6; have h7 := hl 7
  have e := WM.load_eq l hl
  have e0 := u64_or_nat 0 (l 0) (by decide) (by omega)
  have b0 := hor 0 (l 0) (by decide) (by omega)
  generalize 0 ||| l 0 = x0 at *
  have e1 := u64_or_nat x0 (l 1 * 256) b0 (by omega)
  have b1 := hor x0 (l 1 * 256) b0 (by omega)
  generalize x0 ||| l 1 * 256 = x1 at *
  have e2 := u64_or_nat x1 (l 2 * 65536) b1 (by omega)
  have b2 := hor x1 (l 2 * 65536) b1 (by omega)
  generalize x1 ||| l 2 * 65536 = x2 at *
  have e3 := u64_or_nat x2 (l 3 * 16777216) b2 (by omega)
  have b3 := hor x2 (l 3 * 16777216) b2 (by omega)
  generalize x2 ||| l 3 * 16777216 = x3 at *
  have e4 := u64_or_nat x3 (l 4 * 4294967296) b3 (by omega)
  have b4 := hor x3 (l 4 * 4294967296) b3 (by omega)
  generalize x3 ||| l 4 * 4294967296 = x4 at *
  have e5 := u64_or_nat x4 (l 5 * 1099511627776) b4 (by omega)
  have b5 := hor x4 (l 5 * 1099511627776) b4 (by omega)
  generalize x4 ||| l 5 * 1099511627776 = x5 at *
  have e6 := u64_or_nat x5 (l 6 * 281474976710656) b5 (by omega)
  have b6 := hor x5 (l 6 * 281474976710656) b5 (by omega)
  generalize x5 ||| l 6 * 281474976710656 = x6 at *
  have e7 := u64_or_nat x6 (l 7 * 72057594037927936) b6 (by omega)
  rw [show ((l 1 * 256 : Nat) : Int) = (l 1 : Int) * 256 from by omega] at e1
  rw [show ((l 2 * 65536 : Nat) : Int) = (l 2 : Int) * 65536 from by omega] at e2
  rw [show ((l 3 * 16777216 : Nat) : Int) = (l 3 : Int) * 16777216 from by omega] at e3
  rw [show ((l 4 * 4294967296 : Nat) : Int) = (l 4 : Int) * 4294967296 from by omega] at e4
  rw [show ((l 5 * 1099511627776 : Nat) : Int) = (l 5 : Int) * 1099511627776 from by omega] at e5
  rw [show ((l 6 * 281474976710656 : Nat) : Int) = (l 6 : Int) * 281474976710656 from by omega] at e6
  rw [show ((l 7 * 72057594037927936 : Nat) : Int) = (l 7 : Int) * 72057594037927936 from by omega] at e7
  rw [show ((0 : Nat) : Int) = 0 from rfl] at e0
  rw [e0, e1, e2, e3, e4, e5, e6, e7]
  exact congrArg _ e

set_option maxHeartbeats 400000 in
theorem refRepeat_any (b : Int) (w : World) (h0 : 0 ≤ b) (h1 : b ≤ 255) :
    Calls Tryd.prog 19 #[.int .u8 b] w fun e w' => e = .returned (.int .u64 (repI b)) ∧ Below w.heap.size w w' := by
  obtain ⟨c, rfl⟩ := Int.eq_ofNat_of_zero_le h0
  have hq := Go.Lib.hid (WM.repeat_of8 c)
  go_enter Tryd.func19, Tryd.ntmps19
  go_wp2_with (go_at_call 34; refine (of_any (fun _ => c) _ (by omega)).mono ?_; rintro e w' ⟨rfl, hb⟩)
  go_ret
  exact ⟨ret_int (by rw [repI_nat, hq.out]), hb⟩

set_option maxHeartbeats 400000 in
theorem refWith_bad (W l b : Int) (w : World) (h : l < 0 ∨ 7 < l) :
    Calls Tryd.prog 38 #[.int .u64 W, .int .i64 l, .int .u8 b] w fun e w' => e = .returned (.tuple #[.int .u64 0, .int .i64 3]) ∧ w = w' := by
  rcases h with h | h
  all_goals
    go_enter Tryd.func38, Tryd.ntmps38
    go_wp2
    all_goals (go_ret2; exact ⟨rfl, rfl⟩)

end Go.Proofs.YtjeekfeimogehaaDoor
