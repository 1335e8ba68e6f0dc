import Derived.Test.YtkllfeoepbahlaaDoorT3
import Derived.Test.YtkllfeoepbahlaaDoorT4
/- Digit of the reference, and the helpers of the laws. -/
namespace Go.Proofs.YtkllfeoepbahlaaDoor
open Go.RowKit

set_option maxHeartbeats 1000000 in
theorem refDigit_bad (t : Nat) (l : Int) (w : World) (h : l < 0 ∨ 7 < l) :
    Calls Tryd.prog 19 #[.int .u64 t, .int .i64 l] w fun e w' => e = .returned (.tuple #[.int .u8 0, .int .i64 3]) ∧ w = w' := by
  rcases h with h | h
  all_goals
    go_enter Tryd.func19, Tryd.ntmps19
    go_wp2
    all_goals go_ret2
    all_goals exact ⟨rfl, rfl⟩
set_option maxHeartbeats 1000000 in
theorem refDigit_in (t i : Nat) (w : World) (ht : t < 18446744073709551616) (hi : i < 8) :
    Calls Tryd.prog 19 #[.int .u64 t, .int .i64 i] w fun e w' => e = .returned (.tuple #[.int .u8 (WM.lane t i), .int .i64 0]) ∧ w = w' := by
  go_enter Tryd.func19, Tryd.ntmps19
  go_wp2
  go_loop [0, 6] (fun n j => ∃ k : Nat, k ≤ i ∧ j = .int .i64 k ∧ n = .int .u64 (t / 256 ^ k : Nat)) (fun _ j => i - (intOf j).toNat)
  case atStart => exact ⟨0, by omega, rfl, by simp⟩
  case round =>
    obtain ⟨k, hk, rfl, rfl⟩ := hrel
    by_cases hlt : k < i
    · have hs : Box (t / 256 ^ (k + 1) = t / 256 ^ k / 256) := ⟨by rw [Nat.pow_succ, Nat.div_div_eq_div_mul]⟩
      have hle : t / 256 ^ k ≤ t := Nat.div_le_self _ _
      generalize t / 256 ^ k = x at *
      go_wp2
      go_round
      case rel => exact ⟨k + 1, by omega, by go_num, by rw [hs.out]; go_num⟩
      case measure => simp [intOf]; omega
    · obtain rfl : k = i := by omega
      have hle : t / 256 ^ k ≤ t := Nat.div_le_self _ _
      have hL : Box (WM.lane t k = t / 256 ^ k % 256) := ⟨rfl⟩
      generalize t / 256 ^ k = x at *
      go_wp2
      go_ret2
      exact ⟨ret_int2 (by rw [hL.out]; simp; try omega) rfl, rfl⟩
theorem refDigit_any (t : Nat) (l : Int) (w : World) (ht : t < 18446744073709551616) :
    Calls Tryd.prog 19 #[.int .u64 t, .int .i64 l] w fun e w' => e = .returned (.tuple #[.int .u8 (digV t l), .int .i64 (digE l)]) ∧ w = w' := by
  unfold digV digE
  by_cases h : l < 0 ∨ 7 < l
  · rw [if_pos h, if_pos h]; exact refDigit_bad t l w h
  · rw [if_neg h, if_neg h]
    obtain ⟨i, rfl⟩ := Int.eq_ofNat_of_zero_le (show 0 ≤ l by omega)
    exact refDigit_in t i w ht (by omega)

theorem digitf_any (t : Nat) (l : Int) (x e : Int) (w : World) (ht : t < 18446744073709551616) (hx : (digV t l : Int) = x) (he : digE l = e) :
    Calls Tryd.prog 20 #[.int .u64 t, .int .i64 l, .int .u8 x, .int .i64 e] w fun e w' => e = .returned (.bool true) ∧ w = w' := by
  have c1 : Box _ := ⟨fun w => digit_any t l w ht⟩
  rw [hx, he] at c1
  clear hx he
  go_enter Tryd.func20, Tryd.ntmps20
  go_wp2_with (first | (go_at_call 25; (with_reducible refine (c1.out _).mono ?_); rintro e w' ⟨rfl, rfl⟩))
  go_ret
  exact ⟨rfl, rfl⟩

theorem parsesf_any (s : ByteArray) (x e : Int) (w : World) (hs : s.size ≤ 281474976710656) (hw : Env w) (hx : (pV (parseT s.data.toList) : Int) = x) (he : pE (parseT s.data.toList) = e) :
    Calls Tryd.prog 24 #[.string s, .int .u64 x, .int .i64 e] w fun e w' => e = .returned (.bool true) ∧ Ext w w' := by
  have c1 : Box _ := ⟨fun (_ : Unit) => parse_any s w hs hw⟩
  rw [hx, he] at c1
  clear hx he hw hs
  have hx : Ext w w := Below.refl _ _
  go_enter Tryd.func24, Tryd.ntmps24
  go_wp2_with (first | (go_at_call 29; (with_reducible refine (c1.out ()).mono ?_); rintro e w1 ⟨rfl, hb⟩; have hx := Ext.trans' hx hb))
  go_ret
  exact ⟨rfl, hx⟩
end Go.Proofs.YtkllfeoepbahlaaDoor
