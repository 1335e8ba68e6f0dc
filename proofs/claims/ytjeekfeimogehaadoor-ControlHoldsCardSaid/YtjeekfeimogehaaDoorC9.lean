import Derived.Test.YtjeekfeimogehaaDoorC8
/- Plain laws for ControlHolds. -/
namespace Go.Proofs.YtjeekfeimogehaaDoor
open Go.RowKit

namespace WM
theorem op2_and (a b c d : Nat) (ha : a < 2) (hc : c < 2) : (a + 2 * b) &&& (c + 2 * d) = (a &&& c) + 2 * (b &&& d) := by
  have hac : a &&& c < 2 ^ 1 := Nat.and_lt_two_pow (n := 1) _ hc
  have ha' : a < 2 ^ 1 := ha
  have hc' : c < 2 ^ 1 := hc
  have e : ∀ x y : Nat, x + 2 * y = 2 ^ 1 * y + x := fun x y => by omega
  apply Nat.eq_of_testBit_eq; intro i
  rw [e a, e c, e (a &&& c), Nat.testBit_and, Nat.testBit_two_pow_mul_add _ ha', Nat.testBit_two_pow_mul_add _ hc', Nat.testBit_two_pow_mul_add _ hac]
  split <;> simp
theorem bool_and (a b : Bool) : a.toNat &&& b.toNat = (a && b).toNat := by cases a <;> cases b <;> rfl
theorem set8_and (c d : Nat → Bool) : set8 c &&& set8 d = set8 (fun i => c i && d i) := by
  unfold set8
  repeat rw [op2_and _ _ _ _ (bool_lt _) (bool_lt _)]
  simp only [bool_and]
theorem set8_zero (c : Nat → Bool) : set8 c = 0 ↔ ∀ i, i < 8 → c i = false := by
  constructor
  · intro h i hi
    have := set8_bit c i hi
    rw [h] at this
    cases hc : c i
    · rfl
    · rw [hc] at this; simp at this
  · intro h
    rw [set8_ext c (fun _ => false) (fun i hi => h i hi)]; rfl
theorem set8_one (i : Nat) (hi : i < 8) : 2 ^ i = set8 (fun j => j == i) := by
  rcases lt8_nat i hi with rfl | rfl | rfl | rfl | rfl | rfl | rfl | rfl <;> decide
theorem lane_with (W i b j : Nat) (hb : b < 256) (hj : j < 8) : lane (withN W i b) j = if j = i then b else lane W j := by
  unfold withN
  exact lane_of8 _ (fun j => by show (if j = i then b else lane W j) < 256; split; exact hb; exact lane_lt W j) j hj
theorem free_full_zero (W : Nat) : freeN W &&& fullN W = 0 := by
  unfold freeN fullN; rw [set8_and, set8_zero]; intro i _
  unfold freeB
  by_cases h : lane W i < 128
  · have h1 : lane W i ≠ 128 := by omega
    have h2 : lane W i ≠ 254 := by omega
    simp [h1, h2]
  · simp; omega
theorem empty_free (W : Nat) : matchN W 128 &&& (255 - freeN W) = 0 := by
  unfold freeN matchN; rw [set8_not, set8_and, set8_zero]; intro i _
  unfold freeB
  cases h : lane W i == 128 <;> simp_all
end WM

theorem eraC_ok (W : Nat) : eraC W < 256 ∧ WM.okB (eraC W) = true ∧ WM.freeB (eraC W) = true := by
  unfold eraC; split <;> exact ⟨by decide, by decide, by decide⟩
theorem era_valid (W i : Nat) (hi : i < 8) (hv : WM.validN W = true) : WM.validN (WM.withN W i (eraC W)) = true := by
  unfold WM.validN at hv ⊢
  rw [WM.all8B_eq] at hv ⊢
  intro j hj
  try dsimp only
  rw [WM.lane_with W i _ j (eraC_ok W).1 hj]
  split
  · exact (eraC_ok W).2.1
  · exact hv j hj
theorem era_empty (W i : Nat) (hi : i < 8) : WM.matchN (WM.withN W i (eraC W)) 128 = 0 ↔ WM.matchN W 128 = 0 := by
  have hC : eraC W = if WM.matchN W 128 = 0 then 254 else 128 := rfl
  by_cases h : WM.matchN W 128 = 0
  · simp only [h, iff_true]
    rw [if_pos h] at hC
    unfold WM.matchN at h ⊢
    rw [WM.set8_zero] at h ⊢
    intro j hj
    rw [WM.lane_with W i _ j (eraC_ok W).1 hj, hC]
    split
    · rfl
    · exact h j hj
  · simp only [h, iff_false]
    rw [if_neg h] at hC
    unfold WM.matchN
    rw [WM.set8_zero]
    intro hh
    have := hh i hi
    rw [WM.lane_with W i _ i (eraC_ok W).1 hi, hC] at this
    simp at this
theorem era_free (W i : Nat) (hi : i < 8) : WM.freeN (WM.withN W i (eraC W)) = WM.freeN W ||| 2 ^ i := by
  rw [WM.set8_one i hi]
  unfold WM.freeN
  rw [WM.set8_or]
  apply WM.set8_ext
  intro j hj
  rw [WM.lane_with W i _ j (eraC_ok W).1 hj]
  by_cases h : j = i
  · rw [if_pos h, (eraC_ok W).2.2]; simp [h]
  · rw [if_neg h]; simp [h]
theorem set_bit (W i c k : Nat) (hi : i < 8) (hc : c < 256) (hk : k < 128) : cmatch (WM.withN W i c) k / 2 ^ i % 2 = if k = c then 1 else 0 := by
  unfold cmatch
  rw [if_pos hk]
  unfold WM.matchN
  rw [set8_bit _ i hi, WM.lane_with W i c i hc hi, if_pos rfl]
  by_cases h : k = c
  · rw [if_pos h]; simp [h]
  · rw [if_neg h]; simp; omega
end Go.Proofs.YtjeekfeimogehaaDoor
