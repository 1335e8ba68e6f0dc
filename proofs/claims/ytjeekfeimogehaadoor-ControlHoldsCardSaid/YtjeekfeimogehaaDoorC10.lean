import Derived.Test.YtjeekfeimogehaaDoorC9
/- The walk of ControlHolds. (Written by gen_c10.py.) -/
namespace Go.Proofs.YtjeekfeimogehaaDoor
open Go.RowKit

theorem bit_fact (M k c i : Nat) (h : M / 2 ^ i % 2 = if k = c then 1 else 0) : ∃ b, ((((M / 2 ^ i : Nat) : Int) % 2 == 1) = b) ∧ (((k : Int) == (c : Int)) = b) := by
  refine ⟨decide (k = c), ?_, ?_⟩
  · rw [Bool.eq_iff_iff]; simp only [beq_iff_eq, decide_eq_true_eq]
    generalize M / 2 ^ i = x at *
    split at h <;> omega
  · rw [Bool.eq_iff_iff]; simp; omega

set_option maxRecDepth 20000 in
set_option maxHeartbeats 20000000 in
theorem holds_es (a0 : Nat) (l : Nat) (c : Nat) (W : World) (F U E X1 X2 : Nat) (hc : c < 256) (hl : l < 8)
    (ck : Box (∀ w, Ext W w → Calls Tryd.prog 20 #[] w fun e w' => e = .returned (.bool true) ∧ Ext w w'))
    (c1 : Box (∀ w, Calls Tryd.prog 8 #[.int .u64 a0] w fun e w' => e = .returned (.bool true) ∧ w = w'))
    (c2 : Box (∀ w, Calls Tryd.prog 14 #[.int .u64 a0] w fun e w' => e = .returned (.int .u8 F) ∧ w = w'))
    (c3 : Box (∀ w, Calls Tryd.prog 16 #[.int .u64 a0] w fun e w' => e = .returned (.int .u8 U) ∧ w = w'))
    (c4 : Box (∀ w, Calls Tryd.prog 12 #[.int .u64 a0] w fun e w' => e = .returned (.int .u8 E) ∧ w = w'))
    (hA : bits .and .u8 (F : Int) (U : Int) = 0) (hO : bits .or .u8 (F : Int) (U : Int) = 255) (hN : bits .andNot .u8 (E : Int) (F : Int) = 0)
    (F1 E1 : Nat) (c5 : Box (∀ w, Calls Tryd.prog 23 #[.int .u64 a0, .int .i64 l] w fun e w' => e = .returned (.tuple #[.int .u64 X1, .int .i64 0]) ∧ Ext w w'))
    (d1 : Box (∀ w, Calls Tryd.prog 8 #[.int .u64 X1] w fun e w' => e = .returned (.bool true) ∧ w = w'))
    (d2 : Box (∀ w, Calls Tryd.prog 14 #[.int .u64 X1] w fun e w' => e = .returned (.int .u8 F1) ∧ w = w'))
    (d3 : Box (∀ w, Calls Tryd.prog 12 #[.int .u64 X1] w fun e w' => e = .returned (.int .u8 E1) ∧ w = w'))
    (cl : Box (∀ k : Nat, k < 8 → ∀ w, Calls Tryd.prog 27 #[.int .u64 a0, .int .i64 k] w fun e w' => e = .returned (.int .u8 (WM.lane a0 k)) ∧ w = w'))
    (cx : Box (∀ k : Nat, k < 8 → ∀ w, Calls Tryd.prog 27 #[.int .u64 X1, .int .i64 k] w fun e w' => e = .returned (.int .u8 (WM.lane X1 k)) ∧ w = w'))
    (bE : Bool) (hE0 : ((E : Int) != 0) = bE) (hE1 : ((E1 : Int) != 0) = bE) (hF1 : F1 = F ||| 2 ^ l) (hFl : F < 256)
    (hlane : ∀ k : Nat, k < 8 → (((k : Int) != (l : Int)) = false ∨ (((k : Int) != (l : Int)) = true ∧ WM.lane X1 k = WM.lane a0 k)))
    (cm : Box (∀ k : Nat, k < 128 → ∀ w, Calls Tryd.prog 10 #[.int .u64 X2, .int .u8 k] w fun e w' => e = .returned (.int .u8 (cmatch X2 k)) ∧ w = w'))
    (c6 : Box (∀ w, Calls Tryd.prog 21 #[.int .u64 a0, .int .i64 l, .int .u8 c] w fun e w' => e = .returned (.tuple #[.int .u64 X2, .int .i64 0]) ∧ Ext w w'))
    (hbit0 : ∀ k : Nat, k < 128 → cmatch X2 k / 2 ^ l % 2 = if k = c then 1 else 0)
    : Calls Tryd.prog 7 #[.int .u64 a0, .int .i64 l, .int .u8 c] W fun e w' => e = .returned (.bool true) ∧ Below W.heap.size W w' := by
  have hx : Ext W W := Below.refl _ _
  have hor := Box.mk (u8_or_nat F (2 ^ l) hFl (Nat.pow_lt_pow_right (m := l) (n := 8) (by decide) hl))
  rw [← hF1] at hor
  clear hF1 hFl
  have hbit : Box (∀ k : Nat, k < 128 → ∃ b, ((((cmatch X2 k / 2 ^ l : Nat) : Int) % 2 == 1) = b) ∧ (((k : Int) == (c : Int)) = b)) := ⟨fun k hk => bit_fact _ k c l (hbit0 k hk)⟩
  clear hbit0
  rcases lt8_nat l hl with rfl | rfl | rfl | rfl | rfl | rfl | rfl | rfl
  all_goals
    clear hl
    have hor := hor.out
    have hbit := hbit.out
    simp only [Int.cast_ofNat_Int, Nat.reducePow, Int.natCast_ediv, Int.ediv_one] at *
    go_enter Tryd.func7, Tryd.ntmps7
    go_wp2_with (first | (go_at_call 8; (with_reducible refine (c1.out _).mono ?_); rintro e w' ⟨rfl, rfl⟩) | (go_at_call 14; (with_reducible refine (c2.out _).mono ?_); rintro e w' ⟨rfl, rfl⟩) | (go_at_call 16; (with_reducible refine (c3.out _).mono ?_); rintro e w' ⟨rfl, rfl⟩) | (go_at_call 12; (with_reducible refine (c4.out _).mono ?_); rintro e w' ⟨rfl, rfl⟩) | (go_at_call 8; (with_reducible refine (d1.out _).mono ?_); rintro e w' ⟨rfl, rfl⟩) | (go_at_call 14; (with_reducible refine (d2.out _).mono ?_); rintro e w' ⟨rfl, rfl⟩) | (go_at_call 12; (with_reducible refine (d3.out _).mono ?_); rintro e w' ⟨rfl, rfl⟩) | (go_at_call 23; (with_reducible refine (c5.out _).mono ?_); rintro e w1 ⟨rfl, hb⟩; have hx := Ext.trans' hx hb) | (go_at_call 21; (with_reducible refine (c6.out _).mono ?_); rintro e w1 ⟨rfl, hb⟩; have hx := Ext.trans' hx hb) | (go_at_call 20; (with_reducible refine (ck.out _ hx).mono ?_); rintro e w1 ⟨rfl, hb⟩; have hx := Ext.trans' hx hb))
    go_loopw [9] (fun i wr => ∃ k : Nat, k ≤ 8 ∧ i = .int .i64 k ∧ Ext W wr) (fun i _ => 8 - (intOf i).toNat)
    case atStart => exact ⟨0, by omega, rfl, hx⟩
    case round =>
      obtain ⟨k, hk, rfl, hx⟩ := hrel
      by_cases hlt : k < 8
      · have hL := hlane k hlt
        have l1 := Box.mk (cl.out k hlt)
        have l2 := Box.mk (cx.out k hlt)
        generalize WM.lane X1 k = L1 at *
        generalize WM.lane a0 k = L0 at *
        rcases hL with hL | ⟨hL, hLe⟩
        · go_wp2_with (first | (go_at_call 27; (with_reducible refine (l1.out _).mono ?_); rintro e w' ⟨rfl, rfl⟩) | (go_at_call 27; (with_reducible refine (l2.out _).mono ?_); rintro e w' ⟨rfl, rfl⟩))
          go_roundw
          case rel => exact ⟨k + 1, by omega, by go_num, hx⟩
          case measure => simp [intOf]; omega
        · subst hLe
          go_wp2_with (first | (go_at_call 27; (with_reducible refine (l1.out _).mono ?_); rintro e w' ⟨rfl, rfl⟩) | (go_at_call 27; (with_reducible refine (l2.out _).mono ?_); rintro e w' ⟨rfl, rfl⟩))
          go_roundw
          case rel => exact ⟨k + 1, by omega, by go_num, hx⟩
          case measure => simp [intOf]; omega
      · obtain rfl : k = 8 := by omega
        go_wp2_with (first | (go_at_call 21; (with_reducible refine (c6.out _).mono ?_); rintro e w1 ⟨rfl, hb⟩; have hx := Ext.trans' hx hb) | (go_at_call 20; (with_reducible refine (ck.out _ hx).mono ?_); rintro e w1 ⟨rfl, hb⟩; have hx := Ext.trans' hx hb))
        go_loopw [12] (fun i wr => ∃ k : Nat, k ≤ 128 ∧ i = .int .i64 k ∧ Ext W wr) (fun i _ => 128 - (intOf i).toNat)
        case atStart => exact ⟨0, by omega, rfl, hx⟩
        case round =>
          obtain ⟨k, hk, rfl, hx⟩ := hrel
          by_cases hlt : k < 128
          · have hm := Box.mk (cm.out k hlt)
            obtain ⟨bb, hb1, hb2⟩ := hbit k hlt
            generalize cmatch X2 k = M at *
            go_wp2_with (go_at_call 10; (with_reducible refine (hm.out _).mono ?_); rintro e w' ⟨rfl, rfl⟩)
            go_roundw
            case rel => exact ⟨k + 1, by omega, by go_num, hx⟩
            case measure => simp [intOf]; omega
          · obtain rfl : k = 128 := by omega
            go_wp2_with (first | (go_at_call 20; (with_reducible refine (ck.out _ hx).mono ?_); rintro e w1 ⟨rfl, hb⟩; have hx := Ext.trans' hx hb))
            go_ret
            exact ⟨rfl, hx⟩

set_option maxRecDepth 20000 in
set_option maxHeartbeats 20000000 in
theorem holds_en (a0 : Nat) (l : Nat) (c : Nat) (W : World) (F U E X1 X2 : Nat) (hc : c < 256) (hl : l < 8)
    (ck : Box (∀ w, Ext W w → Calls Tryd.prog 20 #[] w fun e w' => e = .returned (.bool true) ∧ Ext w w'))
    (c1 : Box (∀ w, Calls Tryd.prog 8 #[.int .u64 a0] w fun e w' => e = .returned (.bool true) ∧ w = w'))
    (c2 : Box (∀ w, Calls Tryd.prog 14 #[.int .u64 a0] w fun e w' => e = .returned (.int .u8 F) ∧ w = w'))
    (c3 : Box (∀ w, Calls Tryd.prog 16 #[.int .u64 a0] w fun e w' => e = .returned (.int .u8 U) ∧ w = w'))
    (c4 : Box (∀ w, Calls Tryd.prog 12 #[.int .u64 a0] w fun e w' => e = .returned (.int .u8 E) ∧ w = w'))
    (hA : bits .and .u8 (F : Int) (U : Int) = 0) (hO : bits .or .u8 (F : Int) (U : Int) = 255) (hN : bits .andNot .u8 (E : Int) (F : Int) = 0)
    (F1 E1 : Nat) (c5 : Box (∀ w, Calls Tryd.prog 23 #[.int .u64 a0, .int .i64 l] w fun e w' => e = .returned (.tuple #[.int .u64 X1, .int .i64 0]) ∧ Ext w w'))
    (d1 : Box (∀ w, Calls Tryd.prog 8 #[.int .u64 X1] w fun e w' => e = .returned (.bool true) ∧ w = w'))
    (d2 : Box (∀ w, Calls Tryd.prog 14 #[.int .u64 X1] w fun e w' => e = .returned (.int .u8 F1) ∧ w = w'))
    (d3 : Box (∀ w, Calls Tryd.prog 12 #[.int .u64 X1] w fun e w' => e = .returned (.int .u8 E1) ∧ w = w'))
    (cl : Box (∀ k : Nat, k < 8 → ∀ w, Calls Tryd.prog 27 #[.int .u64 a0, .int .i64 k] w fun e w' => e = .returned (.int .u8 (WM.lane a0 k)) ∧ w = w'))
    (cx : Box (∀ k : Nat, k < 8 → ∀ w, Calls Tryd.prog 27 #[.int .u64 X1, .int .i64 k] w fun e w' => e = .returned (.int .u8 (WM.lane X1 k)) ∧ w = w'))
    (bE : Bool) (hE0 : ((E : Int) != 0) = bE) (hE1 : ((E1 : Int) != 0) = bE) (hF1 : F1 = F ||| 2 ^ l) (hFl : F < 256)
    (hlane : ∀ k : Nat, k < 8 → (((k : Int) != (l : Int)) = false ∨ (((k : Int) != (l : Int)) = true ∧ WM.lane X1 k = WM.lane a0 k)))
    (s1 e1 : Int) (he1 : (e1 == 0) = false) (c6 : Box (∀ w, Calls Tryd.prog 21 #[.int .u64 a0, .int .i64 l, .int .u8 c] w fun e w' => e = .returned (.tuple #[.int .u64 s1, .int .i64 e1]) ∧ Ext w w'))
    : Calls Tryd.prog 7 #[.int .u64 a0, .int .i64 l, .int .u8 c] W fun e w' => e = .returned (.bool true) ∧ Below W.heap.size W w' := by
  have hx : Ext W W := Below.refl _ _
  have hor := Box.mk (u8_or_nat F (2 ^ l) hFl (Nat.pow_lt_pow_right (m := l) (n := 8) (by decide) hl))
  rw [← hF1] at hor
  clear hF1 hFl
  rcases lt8_nat l hl with rfl | rfl | rfl | rfl | rfl | rfl | rfl | rfl
  all_goals
    clear hl
    have hor := hor.out
    simp only [Int.cast_ofNat_Int, Nat.reducePow, Int.natCast_ediv, Int.ediv_one] at *
    go_enter Tryd.func7, Tryd.ntmps7
    go_wp2_with (first | (go_at_call 8; (with_reducible refine (c1.out _).mono ?_); rintro e w' ⟨rfl, rfl⟩) | (go_at_call 14; (with_reducible refine (c2.out _).mono ?_); rintro e w' ⟨rfl, rfl⟩) | (go_at_call 16; (with_reducible refine (c3.out _).mono ?_); rintro e w' ⟨rfl, rfl⟩) | (go_at_call 12; (with_reducible refine (c4.out _).mono ?_); rintro e w' ⟨rfl, rfl⟩) | (go_at_call 8; (with_reducible refine (d1.out _).mono ?_); rintro e w' ⟨rfl, rfl⟩) | (go_at_call 14; (with_reducible refine (d2.out _).mono ?_); rintro e w' ⟨rfl, rfl⟩) | (go_at_call 12; (with_reducible refine (d3.out _).mono ?_); rintro e w' ⟨rfl, rfl⟩) | (go_at_call 23; (with_reducible refine (c5.out _).mono ?_); rintro e w1 ⟨rfl, hb⟩; have hx := Ext.trans' hx hb) | (go_at_call 21; (with_reducible refine (c6.out _).mono ?_); rintro e w1 ⟨rfl, hb⟩; have hx := Ext.trans' hx hb) | (go_at_call 20; (with_reducible refine (ck.out _ hx).mono ?_); rintro e w1 ⟨rfl, hb⟩; have hx := Ext.trans' hx hb))
    go_loopw [9] (fun i wr => ∃ k : Nat, k ≤ 8 ∧ i = .int .i64 k ∧ Ext W wr) (fun i _ => 8 - (intOf i).toNat)
    case atStart => exact ⟨0, by omega, rfl, hx⟩
    case round =>
      obtain ⟨k, hk, rfl, hx⟩ := hrel
      by_cases hlt : k < 8
      · have hL := hlane k hlt
        have l1 := Box.mk (cl.out k hlt)
        have l2 := Box.mk (cx.out k hlt)
        generalize WM.lane X1 k = L1 at *
        generalize WM.lane a0 k = L0 at *
        rcases hL with hL | ⟨hL, hLe⟩
        · go_wp2_with (first | (go_at_call 27; (with_reducible refine (l1.out _).mono ?_); rintro e w' ⟨rfl, rfl⟩) | (go_at_call 27; (with_reducible refine (l2.out _).mono ?_); rintro e w' ⟨rfl, rfl⟩))
          go_roundw
          case rel => exact ⟨k + 1, by omega, by go_num, hx⟩
          case measure => simp [intOf]; omega
        · subst hLe
          go_wp2_with (first | (go_at_call 27; (with_reducible refine (l1.out _).mono ?_); rintro e w' ⟨rfl, rfl⟩) | (go_at_call 27; (with_reducible refine (l2.out _).mono ?_); rintro e w' ⟨rfl, rfl⟩))
          go_roundw
          case rel => exact ⟨k + 1, by omega, by go_num, hx⟩
          case measure => simp [intOf]; omega
      · obtain rfl : k = 8 := by omega
        go_wp2_with (first | (go_at_call 21; (with_reducible refine (c6.out _).mono ?_); rintro e w1 ⟨rfl, hb⟩; have hx := Ext.trans' hx hb) | (go_at_call 20; (with_reducible refine (ck.out _ hx).mono ?_); rintro e w1 ⟨rfl, hb⟩; have hx := Ext.trans' hx hb))
        go_ret
        exact ⟨rfl, hx⟩

set_option maxRecDepth 20000 in
set_option maxHeartbeats 20000000 in
theorem holds_ns (a0 : Nat) (l : Nat) (c : Nat) (W : World) (F U E X1 X2 : Nat) (hc : c < 256) (hl : l < 8)
    (ck : Box (∀ w, Ext W w → Calls Tryd.prog 20 #[] w fun e w' => e = .returned (.bool true) ∧ Ext w w'))
    (c1 : Box (∀ w, Calls Tryd.prog 8 #[.int .u64 a0] w fun e w' => e = .returned (.bool true) ∧ w = w'))
    (c2 : Box (∀ w, Calls Tryd.prog 14 #[.int .u64 a0] w fun e w' => e = .returned (.int .u8 F) ∧ w = w'))
    (c3 : Box (∀ w, Calls Tryd.prog 16 #[.int .u64 a0] w fun e w' => e = .returned (.int .u8 U) ∧ w = w'))
    (c4 : Box (∀ w, Calls Tryd.prog 12 #[.int .u64 a0] w fun e w' => e = .returned (.int .u8 E) ∧ w = w'))
    (hA : bits .and .u8 (F : Int) (U : Int) = 0) (hO : bits .or .u8 (F : Int) (U : Int) = 255) (hN : bits .andNot .u8 (E : Int) (F : Int) = 0)
    (x1 r1 : Int) (hr1 : (r1 == 0) = false) (c5 : Box (∀ w, Calls Tryd.prog 23 #[.int .u64 a0, .int .i64 l] w fun e w' => e = .returned (.tuple #[.int .u64 x1, .int .i64 r1]) ∧ Ext w w'))
    (cm : Box (∀ k : Nat, k < 128 → ∀ w, Calls Tryd.prog 10 #[.int .u64 X2, .int .u8 k] w fun e w' => e = .returned (.int .u8 (cmatch X2 k)) ∧ w = w'))
    (c6 : Box (∀ w, Calls Tryd.prog 21 #[.int .u64 a0, .int .i64 l, .int .u8 c] w fun e w' => e = .returned (.tuple #[.int .u64 X2, .int .i64 0]) ∧ Ext w w'))
    (hbit0 : ∀ k : Nat, k < 128 → cmatch X2 k / 2 ^ l % 2 = if k = c then 1 else 0)
    : Calls Tryd.prog 7 #[.int .u64 a0, .int .i64 l, .int .u8 c] W fun e w' => e = .returned (.bool true) ∧ Below W.heap.size W w' := by
  have hx : Ext W W := Below.refl _ _
  have hbit : Box (∀ k : Nat, k < 128 → ∃ b, ((((cmatch X2 k / 2 ^ l : Nat) : Int) % 2 == 1) = b) ∧ (((k : Int) == (c : Int)) = b)) := ⟨fun k hk => bit_fact _ k c l (hbit0 k hk)⟩
  clear hbit0
  rcases lt8_nat l hl with rfl | rfl | rfl | rfl | rfl | rfl | rfl | rfl
  all_goals
    clear hl
    have hbit := hbit.out
    simp only [Int.cast_ofNat_Int, Nat.reducePow, Int.natCast_ediv, Int.ediv_one] at *
    go_enter Tryd.func7, Tryd.ntmps7
    go_wp2_with (first | (go_at_call 8; (with_reducible refine (c1.out _).mono ?_); rintro e w' ⟨rfl, rfl⟩) | (go_at_call 14; (with_reducible refine (c2.out _).mono ?_); rintro e w' ⟨rfl, rfl⟩) | (go_at_call 16; (with_reducible refine (c3.out _).mono ?_); rintro e w' ⟨rfl, rfl⟩) | (go_at_call 12; (with_reducible refine (c4.out _).mono ?_); rintro e w' ⟨rfl, rfl⟩) | (go_at_call 23; (with_reducible refine (c5.out _).mono ?_); rintro e w1 ⟨rfl, hb⟩; have hx := Ext.trans' hx hb) | (go_at_call 21; (with_reducible refine (c6.out _).mono ?_); rintro e w1 ⟨rfl, hb⟩; have hx := Ext.trans' hx hb) | (go_at_call 20; (with_reducible refine (ck.out _ hx).mono ?_); rintro e w1 ⟨rfl, hb⟩; have hx := Ext.trans' hx hb))
    go_loopw [12] (fun i wr => ∃ k : Nat, k ≤ 128 ∧ i = .int .i64 k ∧ Ext W wr) (fun i _ => 128 - (intOf i).toNat)
    case atStart => exact ⟨0, by omega, rfl, hx⟩
    case round =>
      obtain ⟨k, hk, rfl, hx⟩ := hrel
      by_cases hlt : k < 128
      · have hm := Box.mk (cm.out k hlt)
        obtain ⟨bb, hb1, hb2⟩ := hbit k hlt
        generalize cmatch X2 k = M at *
        go_wp2_with (go_at_call 10; (with_reducible refine (hm.out _).mono ?_); rintro e w' ⟨rfl, rfl⟩)
        go_roundw
        case rel => exact ⟨k + 1, by omega, by go_num, hx⟩
        case measure => simp [intOf]; omega
      · obtain rfl : k = 128 := by omega
        go_wp2_with (first | (go_at_call 20; (with_reducible refine (ck.out _ hx).mono ?_); rintro e w1 ⟨rfl, hb⟩; have hx := Ext.trans' hx hb))
        go_ret
        exact ⟨rfl, hx⟩

set_option maxRecDepth 20000 in
set_option maxHeartbeats 20000000 in
theorem holds_nn (a0 : Nat) (l : Int) (c : Nat) (W : World) (F U E X1 X2 : Nat) (hc : c < 256) 
    (ck : Box (∀ w, Ext W w → Calls Tryd.prog 20 #[] w fun e w' => e = .returned (.bool true) ∧ Ext w w'))
    (c1 : Box (∀ w, Calls Tryd.prog 8 #[.int .u64 a0] w fun e w' => e = .returned (.bool true) ∧ w = w'))
    (c2 : Box (∀ w, Calls Tryd.prog 14 #[.int .u64 a0] w fun e w' => e = .returned (.int .u8 F) ∧ w = w'))
    (c3 : Box (∀ w, Calls Tryd.prog 16 #[.int .u64 a0] w fun e w' => e = .returned (.int .u8 U) ∧ w = w'))
    (c4 : Box (∀ w, Calls Tryd.prog 12 #[.int .u64 a0] w fun e w' => e = .returned (.int .u8 E) ∧ w = w'))
    (hA : bits .and .u8 (F : Int) (U : Int) = 0) (hO : bits .or .u8 (F : Int) (U : Int) = 255) (hN : bits .andNot .u8 (E : Int) (F : Int) = 0)
    (x1 r1 : Int) (hr1 : (r1 == 0) = false) (c5 : Box (∀ w, Calls Tryd.prog 23 #[.int .u64 a0, .int .i64 l] w fun e w' => e = .returned (.tuple #[.int .u64 x1, .int .i64 r1]) ∧ Ext w w'))
    (s1 e1 : Int) (he1 : (e1 == 0) = false) (c6 : Box (∀ w, Calls Tryd.prog 21 #[.int .u64 a0, .int .i64 l, .int .u8 c] w fun e w' => e = .returned (.tuple #[.int .u64 s1, .int .i64 e1]) ∧ Ext w w'))
    : Calls Tryd.prog 7 #[.int .u64 a0, .int .i64 l, .int .u8 c] W fun e w' => e = .returned (.bool true) ∧ Below W.heap.size W w' := by
  have hx : Ext W W := Below.refl _ _
  go_enter Tryd.func7, Tryd.ntmps7
  go_wp2_with (first | (go_at_call 8; (with_reducible refine (c1.out _).mono ?_); rintro e w' ⟨rfl, rfl⟩) | (go_at_call 14; (with_reducible refine (c2.out _).mono ?_); rintro e w' ⟨rfl, rfl⟩) | (go_at_call 16; (with_reducible refine (c3.out _).mono ?_); rintro e w' ⟨rfl, rfl⟩) | (go_at_call 12; (with_reducible refine (c4.out _).mono ?_); rintro e w' ⟨rfl, rfl⟩) | (go_at_call 23; (with_reducible refine (c5.out _).mono ?_); rintro e w1 ⟨rfl, hb⟩; have hx := Ext.trans' hx hb) | (go_at_call 21; (with_reducible refine (c6.out _).mono ?_); rintro e w1 ⟨rfl, hb⟩; have hx := Ext.trans' hx hb) | (go_at_call 20; (with_reducible refine (ck.out _ hx).mono ?_); rintro e w1 ⟨rfl, hb⟩; have hx := Ext.trans' hx hb))
  go_ret
  exact ⟨rfl, hx⟩

end Go.Proofs.YtjeekfeimogehaaDoor
