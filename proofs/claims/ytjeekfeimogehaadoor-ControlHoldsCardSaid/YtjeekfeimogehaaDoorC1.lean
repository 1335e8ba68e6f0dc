import Derived.Test.YtjeekfeimogehaaDoorW4
/- Contracts of package control and of its reference: which lanes are empty, free, full; the valid groups. -/
namespace Go.Proofs.YtjeekfeimogehaaDoor
open Go.RowKit

namespace WM
theorem op2_or (a b c d : Nat) (ha : a < 2) (hc : c < 2) : (a + 2 * b) ||| (c + 2 * d) = (a ||| c) + 2 * (b ||| d) := by
  have hac : a ||| c < 2 ^ 1 := Nat.or_lt_two_pow (n := 1) ha hc
  have ha' : a < 2 ^ 1 := ha
  have hc' : c < 2 ^ 1 := hc
  have e : ∀ x y : Nat, x + 2 * y = 2 ^ 1 * y + x := fun x y => by omega
  apply Nat.eq_of_testBit_eq; intro i
  rw [e a, e c, e (a ||| c), Nat.testBit_or, Nat.testBit_two_pow_mul_add _ ha', Nat.testBit_two_pow_mul_add _ hc', Nat.testBit_two_pow_mul_add _ hac]
  split <;> simp
theorem bool_or (a b : Bool) : a.toNat ||| b.toNat = (a || b).toNat := by cases a <;> cases b <;> rfl
theorem bool_lt (a : Bool) : a.toNat < 2 := by cases a <;> decide
theorem set8_or (c d : Nat → Bool) : set8 c ||| set8 d = set8 (fun i => c i || d i) := by
  unfold set8
  repeat rw [op2_or _ _ _ _ (bool_lt _) (bool_lt _)]
  simp only [bool_or]
theorem not8 : ∀ a b c d e f g h : Bool, 255 - (a.toNat + 2 * (b.toNat + 2 * (c.toNat + 2 * (d.toNat + 2 * (e.toNat + 2 * (f.toNat + 2 * (g.toNat + 2 * h.toNat))))))) =
    (!a).toNat + 2 * ((!b).toNat + 2 * ((!c).toNat + 2 * ((!d).toNat + 2 * ((!e).toNat + 2 * ((!f).toNat + 2 * ((!g).toNat + 2 * (!h).toNat)))))) := by decide +kernel
theorem set8_not (c : Nat → Bool) : 255 - set8 c = set8 (fun i => !c i) := not8 _ _ _ _ _ _ _ _
theorem all8 : ∀ a b c d e f g h : Bool, (a.toNat + 2 * (b.toNat + 2 * (c.toNat + 2 * (d.toNat + 2 * (e.toNat + 2 * (f.toNat + 2 * (g.toNat + 2 * h.toNat)))))) == 255) =
    (a && (b && (c && (d && (e && (f && (g && h))))))) := by decide +kernel
def okB (x : Nat) : Bool := decide (x < 128) || x == 128 || x == 254
def freeB (x : Nat) : Bool := x == 128 || x == 254
def freeN (W : Nat) : Nat := set8 (fun i => freeB (lane W i))
def fullN (W : Nat) : Nat := set8 (fun i => decide (lane W i < 128))
def all8B (c : Nat → Bool) : Bool := c 0 && (c 1 && (c 2 && (c 3 && (c 4 && (c 5 && (c 6 && c 7))))))
def validN (W : Nat) : Bool := all8B (fun i => okB (lane W i))
theorem free_eq (W : Nat) : matchN W 128 ||| matchN W 254 = freeN W := by unfold matchN; rw [set8_or]; rfl
theorem full_eq (W : Nat) : 255 - highN W = fullN W := by
  unfold highN fullN; rw [set8_not]; apply set8_ext; intro i _; rw [Bool.eq_iff_iff]; simp
theorem valid_eq (W : Nat) : (freeN W ||| fullN W == 255) = validN W := by
  unfold freeN fullN validN; rw [set8_or]
  refine (all8 _ _ _ _ _ _ _ _).trans ?_
  unfold all8B okB freeB
  congr 1 <;> simp [Bool.or_comm, Bool.or_left_comm, Bool.or_assoc]
theorem xor255 : ∀ x, x < 256 → 255 ^^^ x = 255 - x := by decide +kernel
theorem matchN_lt (W b : Nat) : matchN W b < 256 := set8_lt _
theorem freeN_lt (W : Nat) : freeN W < 256 := set8_lt _
theorem fullN_lt (W : Nat) : fullN W < 256 := set8_lt _
theorem full_range (W : Nat) : rangeN W 0 127 = fullN W := set8_ext _ _ fun i _ => by
  rw [Bool.eq_iff_iff]; simp; omega
theorem all8B_eq (c : Nat → Bool) : all8B c = true ↔ ∀ i, i < 8 → c i = true := by
  unfold all8B; simp only [Bool.and_eq_true]
  constructor
  · rintro ⟨h0, h1, h2, h3, h4, h5, h6, h7⟩ i hi
    rcases lt8_nat i hi with rfl | rfl | rfl | rfl | rfl | rfl | rfl | rfl <;> assumption
  · intro h; exact ⟨h 0 (by omega), h 1 (by omega), h 2 (by omega), h 3 (by omega), h 4 (by omega), h 5 (by omega), h 6 (by omega), h 7 (by omega)⟩
end WM

set_option maxHeartbeats 400000 in
theorem empties_any (W : Int) (w : World) (h0 : 0 ≤ W) (h1 : W < 18446744073709551616) :
    Calls Tryd.prog 12 #[.int .u64 W] w fun e w' => e = .returned (.int .u8 (WM.matchN W.toNat 128)) ∧ w = w' := by
  have c1 : Box _ := ⟨fun w => match_any W 128 w h0 h1 (by omega) (by omega)⟩
  rw [show (128 : Int).toNat = 128 from rfl] at c1
  clear h0 h1
  generalize WM.matchN W.toNat 128 = x at *
  go_enter Tryd.func12, Tryd.ntmps12
  go_wp2_with (first | (go_at_call 30; (with_reducible refine (c1.out _).mono ?_); rintro e w' ⟨rfl, rfl⟩))
  go_ret
  exact ⟨rfl, rfl⟩

set_option maxHeartbeats 400000 in
theorem free_any (W : Int) (w : World) (h0 : 0 ≤ W) (h1 : W < 18446744073709551616) :
    Calls Tryd.prog 14 #[.int .u64 W] w fun e w' => e = .returned (.int .u8 (WM.freeN W.toNat)) ∧ w = w' := by
  have c1 : Box _ := ⟨fun w => empties_any W w h0 h1⟩
  have c2 : Box _ := ⟨fun w => match_any W 254 w h0 h1 (by omega) (by omega)⟩
  rw [show (254 : Int).toNat = 254 from rfl] at c2
  have hf : Box _ := ⟨u8_or_nat _ _ (WM.matchN_lt W.toNat 128) (WM.matchN_lt W.toNat 254)⟩
  rw [WM.free_eq] at hf
  clear h0 h1
  generalize WM.matchN W.toNat 128 = x at *
  generalize WM.matchN W.toNat 254 = y at *
  generalize WM.freeN W.toNat = z at *
  go_enter Tryd.func14, Tryd.ntmps14
  go_wp2_with (first | (go_at_call 12; (with_reducible refine (c1.out _).mono ?_); rintro e w' ⟨rfl, rfl⟩) | (go_at_call 30; (with_reducible refine (c2.out _).mono ?_); rintro e w' ⟨rfl, rfl⟩))
  go_ret
  exact ⟨ret_int hf.out, rfl⟩

theorem u8_not (x : Nat) (hx : x < 256) : bits BinOp.xor IntKind.u8 (if IntKind.u8.signed = true then -1 else IntKind.u8.max) (x : Int) = ((255 - x : Nat) : Int) := by
  rw [show (if IntKind.u8.signed = true then -1 else IntKind.u8.max) = ((255 : Nat) : Int) from rfl, u8_xor_nat 255 x (by decide) hx, WM.xor255 x hx]

set_option maxHeartbeats 400000 in
theorem full_any (W : Int) (w : World) (h0 : 0 ≤ W) (h1 : W < 18446744073709551616) :
    Calls Tryd.prog 16 #[.int .u64 W] w fun e w' => e = .returned (.int .u8 (WM.fullN W.toNat)) ∧ w = w' := by
  have c1 : Box _ := ⟨fun w => high_any W w h0 h1⟩
  have hf : Box _ := ⟨u8_not _ (WM.set8_lt (fun i => decide (128 ≤ WM.lane W.toNat i)))⟩
  have hf' : Box (bits BinOp.xor IntKind.u8 (if IntKind.u8.signed = true then -1 else IntKind.u8.max) (WM.highN W.toNat : Int) = (WM.fullN W.toNat : Int)) := ⟨by
    have := hf.out; rw [← WM.full_eq]; exact this⟩
  clear h0 h1 hf
  generalize WM.highN W.toNat = x at *
  generalize WM.fullN W.toNat = z at *
  go_enter Tryd.func16, Tryd.ntmps16
  go_wp2_with (first | (go_at_call 32; (with_reducible refine (c1.out _).mono ?_); rintro e w' ⟨rfl, rfl⟩))
  go_ret
  exact ⟨ret_int hf'.out, rfl⟩

set_option maxHeartbeats 400000 in
theorem valid_any (W : Int) (w : World) (h0 : 0 ≤ W) (h1 : W < 18446744073709551616) :
    Calls Tryd.prog 8 #[.int .u64 W] w fun e w' => e = .returned (.bool (WM.validN W.toNat)) ∧ w = w' := by
  have c1 : Box _ := ⟨fun w => free_any W w h0 h1⟩
  have c2 : Box _ := ⟨fun w => full_any W w h0 h1⟩
  have hf : Box _ := ⟨u8_or_nat _ _ (WM.freeN_lt W.toNat) (WM.fullN_lt W.toNat)⟩
  have hv : Box _ := ⟨WM.valid_eq W.toNat⟩
  clear h0 h1
  generalize WM.freeN W.toNat = x at *
  generalize WM.fullN W.toNat = y at *
  generalize WM.validN W.toNat = z at *
  go_enter Tryd.func8, Tryd.ntmps8
  go_wp2_with (first | (go_at_call 14; (with_reducible refine (c1.out _).mono ?_); rintro e w' ⟨rfl, rfl⟩) | (go_at_call 16; (with_reducible refine (c2.out _).mono ?_); rintro e w' ⟨rfl, rfl⟩))
  go_ret
  refine ⟨ret_bool ?_, rfl⟩
  rw [hf.out, ← hv.out, Bool.eq_iff_iff]; simp; omega

set_option maxHeartbeats 400000 in
theorem byte_any (c : Nat) (w : World) (h : c < 256) :
    Calls Tryd.prog 29 #[.int .u8 c] w fun e w' => e = .returned (.bool (WM.okB c)) ∧ w = w' := by
  have hz : WM.okB c = (decide (c < 128) || c == 128 || c == 254) := rfl
  by_cases h1 : c < 128
  · have : WM.okB c = true := by rw [hz]; simp [h1]
    go_enter Tryd.func29, Tryd.ntmps29
    go_wp2
    go_ret
    exact ⟨rfl, rfl⟩
  · by_cases h2 : c = 128
    · subst h2
      go_enter Tryd.func29, Tryd.ntmps29
      go_wp2
      go_ret
      exact ⟨rfl, rfl⟩
    · have : WM.okB c = (c == 254) := by rw [hz]; simp [h1, h2]
      clear hz
      go_enter Tryd.func29, Tryd.ntmps29
      go_wp2
      go_ret
      refine ⟨ret_bool ?_, rfl⟩
      rw [this, Bool.eq_iff_iff]; simp; omega
end Go.Proofs.YtjeekfeimogehaaDoor
