import Derived.Test.YtfobbhphcgomgaaW7
/- WordHolds: a word is read from its lanes, each lane belongs to just one byte, High is the union from 128 on. -/
namespace Go.Proofs.Ytfobbhphcgomgaa
open Go.RowKit

theorem op2_and (a b c d : Nat) (ha : a < 2) (hc : c < 2) : (a + 2 * b) &&& (c + 2 * d) = (a &&& c) + 2 * (b &&& d) := by
  have hac : a &&& c < 2 ^ 1 := Nat.and_lt_two_pow _ hc
  apply Nat.eq_of_testBit_eq; intro i
  rw [Nat.add_comm a, Nat.add_comm c, Nat.add_comm (a &&& c), Nat.testBit_and]
  rw [show (2:Nat) = 2^1 from rfl, Nat.testBit_two_pow_mul_add _ ha, Nat.testBit_two_pow_mul_add _ hc, Nat.testBit_two_pow_mul_add _ hac]
  split <;> simp
theorem op2_or (a b c d : Nat) (ha : a < 2) (hc : c < 2) : (a + 2 * b) ||| (c + 2 * d) = (a ||| c) + 2 * (b ||| d) := by
  have hac : a ||| c < 2 ^ 1 := Nat.or_lt_two_pow ha hc
  apply Nat.eq_of_testBit_eq; intro i
  rw [Nat.add_comm a, Nat.add_comm c, Nat.add_comm (a ||| c), Nat.testBit_or]
  rw [show (2:Nat) = 2^1 from rfl, Nat.testBit_two_pow_mul_add _ ha, Nat.testBit_two_pow_mul_add _ hc, Nat.testBit_two_pow_mul_add _ hac]
  split <;> simp
theorem bool_lt (b : Bool) : b.toNat < 2 := by cases b <;> decide
theorem bool_and (a b : Bool) : a.toNat &&& b.toNat = (a && b).toNat := by cases a <;> cases b <;> rfl
theorem bool_or (a b : Bool) : a.toNat ||| b.toNat = (a || b).toNat := by cases a <;> cases b <;> rfl
theorem set8_and (c d : Nat → Bool) : WM.set8 c &&& WM.set8 d = WM.set8 (fun i => c i && d i) := by
  unfold WM.set8
  repeat rw [op2_and _ _ _ _ (bool_lt _) (bool_lt _)]
  simp only [bool_and]
theorem set8_or (c d : Nat → Bool) : WM.set8 c ||| WM.set8 d = WM.set8 (fun i => c i || d i) := by
  unfold WM.set8
  repeat rw [op2_or _ _ _ _ (bool_lt _) (bool_lt _)]
  simp only [bool_or]
theorem set8_false : WM.set8 (fun _ => false) = 0 := by decide
theorem set8_true : WM.set8 (fun _ => true) = 255 := by decide
theorem set8_bit (c : Nat → Bool) (i : Nat) (hi : i < 8) : WM.set8 c / 2 ^ i % 2 = (c i).toNat := by
  have h (i) : (c i).toNat ≤ 1 := Bool.toNat_le _
  have h0 := h 0; have h1 := h 1; have h2 := h 2; have h3 := h 3; have h4 := h 4; have h5 := h 5; have h6 := h 6; have h7 := h 7
  unfold WM.set8
  rcases lt8_nat i hi with rfl | rfl | rfl | rfl | rfl | rfl | rfl | rfl <;> simp <;> omega

/-- The lanes below k; those from 128 on among them. -/
def belowN (W k : Nat) : Nat := WM.set8 (fun i => decide (WM.lane W i < k))
def highTo (W k : Nat) : Nat := WM.set8 (fun i => decide (128 ≤ WM.lane W i) && decide (WM.lane W i < k))
theorem below_zero (W : Nat) : belowN W 0 = 0 := by
  exact (WM.set8_ext _ (fun _ => false) fun i _ => by simp).trans set8_false
theorem highTo_low (W k : Nat) (h : k ≤ 128) : highTo W k = 0 := by
  exact (WM.set8_ext _ (fun _ => false) fun i _ => by rw [Bool.eq_iff_iff]; simp; omega).trans set8_false
theorem below_full (W : Nat) : belowN W 256 = 255 := by
  exact (WM.set8_ext _ (fun _ => true) fun i _ => by simpa using WM.lane_lt W i).trans set8_true
theorem high_full (W : Nat) : highTo W 256 = WM.highN W :=
  WM.set8_ext _ _ fun i _ => by have := WM.lane_lt W i; rw [Bool.eq_iff_iff]; simp; omega
theorem below_and (W k : Nat) : belowN W k &&& WM.matchN W k = 0 := by
  unfold belowN WM.matchN
  rw [set8_and]; exact (WM.set8_ext _ (fun _ => false) fun i _ => by rw [Bool.eq_iff_iff]; simp; omega).trans set8_false
theorem below_or (W k : Nat) : belowN W k ||| WM.matchN W k = belowN W (k + 1) := by
  unfold belowN WM.matchN
  rw [set8_or]; exact WM.set8_ext _ _ fun i _ => by rw [Bool.eq_iff_iff]; simp; omega
theorem high_or (W k : Nat) (h : 128 ≤ k) : highTo W k ||| WM.matchN W k = highTo W (k + 1) := by
  unfold highTo WM.matchN
  rw [set8_or]; exact WM.set8_ext _ _ fun i _ => by rw [Bool.eq_iff_iff]; simp; omega
theorem match_own (W i : Nat) (hi : i < 8) : WM.matchN W (WM.lane W i) / 2 ^ i % 2 = 1 := by
  unfold WM.matchN; rw [set8_bit _ i hi]; simp

theorem u8_or_cast (a b : Nat) (ha : a < 256) (hb : b < 256) : bits BinOp.or IntKind.u8 (a : Int) (b : Int) = ((a ||| b : Nat) : Int) := u8_or_nat a b ha hb
theorem u8_and_cast (a b : Nat) (ha : a < 256) (hb : b < 256) : bits BinOp.and IntKind.u8 (a : Int) (b : Int) = ((a &&& b : Nat) : Int) := u8_and_nat a b ha hb

set_option maxRecDepth 10000 in
set_option maxHeartbeats 2000000 in
theorem wordHolds_walk (W : Int) (w : World) (h0 : 0 ≤ W) (h1 : W < 18446744073709551616) :
    Calls Try.prog 7 #[.int .u64 W] w fun e w' => e = .returned (.bool true) ∧ Below w.heap.size w w' := by
  obtain ⟨W, rfl⟩ := Int.eq_ofNat_of_zero_le h0
  have c1 : Box (∀ w, Calls Try.prog 22 #[.int .u64 W] w fun e w' => e = .returned (A8 (WM.lane W)) ∧ Below w.heap.size w w') := ⟨fun w => by simpa using bytes_any W w h0 h1⟩
  have c2 : Box (∀ b w, (∀ j, j < 8 → w.cell? ⟨b, 0 + j, none⟩ = some (.int .u8 (WM.lane W j))) → Calls Try.prog 20 #[.slice (some ⟨b, 0, none⟩) 8 8] w fun e w' => e = .returned (.tuple #[.int .u64 W, .int .i64 0]) ∧ w = w') := ⟨fun b w hc => by
    have := load_any b 0 8 8 (WM.lane W) w (WM.lane_lt W) (by omega) (by omega) hc; rwa [WM.of8_lane W (by omega)] at this⟩
  have c3 : Box (∀ b w, 0 ≤ b → b ≤ 255 → Calls Try.prog 13 #[.int .u64 W, .int .u8 b] w fun e w' => e = .returned (.int .u8 (WM.matchN W b.toNat)) ∧ w = w') := ⟨fun b w hb0 hb1 => match_any W b w h0 h1 hb0 hb1⟩
  have c4 : Box (∀ w, Calls Try.prog 15 #[.int .u64 W] w fun e w' => e = .returned (.int .u8 (WM.highN W)) ∧ w = w') := ⟨fun w => by simpa using high_any W w h0 h1⟩
  clear h1
  go_enter Try.func7, Try.ntmps7
  go_wp2_with (first | (go_at_call 22; (with_reducible refine (c1.out _).mono ?_); rintro e w1 ⟨rfl, hb1⟩; unfold A8))
  refine (c2.out _ _ ?_).mono ?_
  · intro j hj
    rw [World.cell?_alloc_new]
    rcases lt8_nat j hj with rfl | rfl | rfl | rfl | rfl | rfl | rfl | rfl <;> simp
  rintro e w' ⟨rfl, rfl⟩
  have hB : Below w.heap.size w (w1.alloc (.cells #[.int .u8 (WM.lane W 0), .int .u8 (WM.lane W 1), .int .u8 (WM.lane W 2), .int .u8 (WM.lane W 3), .int .u8 (WM.lane W 4), .int .u8 (WM.lane W 5), .int .u8 (WM.lane W 6), .int .u8 (WM.lane W 7)] 47)) := hb1.alloc hb1.size _
  have hcell : ∀ j, j < 8 → (w1.alloc (.cells #[.int .u8 (WM.lane W 0), .int .u8 (WM.lane W 1), .int .u8 (WM.lane W 2), .int .u8 (WM.lane W 3), .int .u8 (WM.lane W 4), .int .u8 (WM.lane W 5), .int .u8 (WM.lane W 6), .int .u8 (WM.lane W 7)] 47)).cell? ⟨w1.heap.size, j, none⟩ = some (.int .u8 (WM.lane W j)) := fun j hj => by
    rw [World.cell?_alloc_new]
    rcases lt8_nat j hj with rfl | rfl | rfl | rfl | rfl | rfl | rfl | rfl <;> simp
  have Hcell : Box _ := ⟨hcell⟩
  have HB : Box _ := ⟨hB⟩
  clear hcell hB hb1 c1 c2
  generalize w1.alloc _ = w2 at *
  generalize w1.heap.size = B at *
  go_wp2
  go_loop [6, 7, 8] (fun a h b => ∃ k : Nat, k ≤ 256 ∧ b = .int .i64 k ∧ a = .int .u8 (belowN W k) ∧ h = .int .u8 (highTo W k)) (fun _ _ b => 256 - (intOf b).toNat)
  case atStart => exact ⟨0, by omega, rfl, by rw [below_zero]; rfl, by rw [highTo_low W 0 (by omega)]; rfl⟩
  case round =>
    obtain ⟨k, hk, rfl, rfl, rfl⟩ := hrel
    by_cases hlt : k < 256
    · have hA : belowN W k < 256 := WM.set8_lt _
      have hH : highTo W k < 256 := WM.set8_lt _
      have hM : WM.matchN W k < 256 := WM.set8_lt _
      have cm : Box (∀ w, Calls Try.prog 13 #[.int .u64 W, .int .u8 k] w fun e w' => e = .returned (.int .u8 (WM.matchN W k)) ∧ w = w') := ⟨fun w => by simpa using c3.out k w (by omega) (by omega)⟩
      have q1 : bits BinOp.and IntKind.u8 (belowN W k) (WM.matchN W k) = 0 := by rw [u8_and_cast _ _ hA hM, below_and]; rfl
      have q2 : Box (bits BinOp.or IntKind.u8 (belowN W k) (WM.matchN W k) = belowN W (k + 1)) := ⟨by rw [u8_or_cast _ _ hA hM, below_or]⟩
      have q3 : Box (128 ≤ k → bits BinOp.or IntKind.u8 (highTo W k) (WM.matchN W k) = highTo W (k + 1)) := ⟨fun h => by rw [u8_or_cast _ _ hH hM, high_or W k h]⟩
      have q4 : Box (k < 128 → highTo W k = highTo W (k + 1)) := ⟨fun h => by rw [highTo_low W k (by omega), highTo_low W (k+1) (by omega)]⟩
      generalize WM.matchN W k = m at *
      generalize belowN W k = a at *
      generalize highTo W k = h at *
      by_cases h128 : 128 ≤ k
      · go_wp2_with (first | (go_at_call 13; (with_reducible refine (cm.out _).mono ?_); rintro e w' ⟨rfl, rfl⟩))
        go_round
        case rel => exact ⟨k + 1, by omega, by go_num, by rw [q2.out], by rw [q3.out h128]⟩
        case measure => simp [intOf]; omega
      · go_wp2_with (first | (go_at_call 13; (with_reducible refine (cm.out _).mono ?_); rintro e w' ⟨rfl, rfl⟩))
        go_round
        case rel => exact ⟨k + 1, by omega, by go_num, by rw [q2.out], by rw [q4.out (by omega)]⟩
        case measure => simp [intOf]; omega
    · obtain rfl : k = 256 := by omega
      have hbf := below_full W
      have hhf := high_full W
      go_wp2
      go_loop [10] (fun i => ∃ k : Nat, k ≤ 8 ∧ i = .int .i64 k) (fun i => 8 - (intOf i).toNat)
      case atStart => exact ⟨0, by omega, rfl⟩
      case round =>
        obtain ⟨k, hk, rfl⟩ := hrel
        by_cases hlt : k < 8
        · have hc := Hcell.out k hlt
          have cm : Box (∀ w, Calls Try.prog 13 #[.int .u64 W, .int .u8 (WM.lane W k)] w fun e w' => e = .returned (.int .u8 (WM.matchN W (WM.lane W k))) ∧ w = w') := ⟨fun w => by simpa using c3.out (WM.lane W k) w (by omega) (by have := WM.lane_lt W k; omega)⟩
          have hM : WM.matchN W (WM.lane W k) < 256 := WM.set8_lt _
          have hown : Box _ := ⟨match_own W k hlt⟩
          generalize WM.matchN W (WM.lane W k) = m at *
          have ho : (m : Int) / 2 ^ k % 2 = 1 := by have := hown.out; have e : ((m / 2 ^ k % 2 : Nat) : Int) = 1 := by rw [this]; rfl
                                                    simpa using e
          rcases lt8_nat k hlt with rfl | rfl | rfl | rfl | rfl | rfl | rfl | rfl
          all_goals
            simp at ho
            go_wp2_with (first | (go_at_call 13; (with_reducible refine (cm.out _).mono ?_); rintro e w' ⟨rfl, rfl⟩))
            go_round
            case rel => first | exact ⟨1, by omega, rfl⟩ | exact ⟨2, by omega, rfl⟩ | exact ⟨3, by omega, rfl⟩ | exact ⟨4, by omega, rfl⟩ | exact ⟨5, by omega, rfl⟩ | exact ⟨6, by omega, rfl⟩ | exact ⟨7, by omega, rfl⟩ | exact ⟨8, by omega, rfl⟩
            case measure => simp [intOf]
        · obtain rfl : k = 8 := by omega
          go_wp2_with (first | (go_at_call 15; (with_reducible refine (c4.out _).mono ?_); rintro e w' ⟨rfl, rfl⟩) | (go_at_call 11; (with_reducible refine (known_any _).mono ?_); rintro e w4 ⟨rfl, hb4⟩))
          go_ret
          exact ⟨rfl, Ext.trans' HB.out hb4⟩

theorem lawWordHolds_walk (a0 : Int) (W : World) (w0 : (Lit.int .u64 a0).wf = true) :
    Calls Try.prog 7 #[.int .u64 a0] W fun e W' => e = .returned (.bool true) ∧ Below W.heap.size W W' :=
  wordHolds_walk a0 W (wf_u64 w0).1 (wf_u64 w0).2
end Go.Proofs.Ytfobbhphcgomgaa
