import Derived.Test.YtkllfeoepbahlaaDoorT7
/- The walk of TickHolds. -/
namespace Go.Proofs.YtkllfeoepbahlaaDoor
open Go.RowKit

theorem or_low (x d : Nat) (hd : d < 256) : x * 256 ||| d = x * 256 + d := by
  have := WM.op_or 0 x d 0 (by decide) hd
  simp at this
  rw [Nat.mul_comm, this]; omega
theorem lane_step (t k : Nat) : t / 256 ^ (k + 1) * 256 + WM.lane t k = t / 256 ^ k := by
  unfold WM.lane
  rw [Nat.pow_succ, ← Nat.div_div_eq_div_mul]
  omega
theorem lane_top (t k : Nat) (ht : t < 18446744073709551616) (hk : k < 8) : t / 256 ^ (k + 1) < 72057594037927936 := by
  rw [Nat.pow_succ, ← Nat.div_div_eq_div_mul]
  have := Nat.div_le_self t (256 ^ k)
  omega
theorem digV_in (t k : Nat) (hk : k < 8) : digV t (k : Int) = WM.lane t k := by
  unfold digV; rw [if_neg (by omega), Int.toNat_natCast]
theorem digE_in (k : Nat) (hk : k < 8) : digE (k : Int) = 0 := by
  unfold digE; rw [if_neg (by omega)]

set_option maxHeartbeats 4000000 in
theorem lawTickHolds_walk (a0 a1 a2 a3 : Int) (W : World) (w0 : (Lit.int .u64 a0).wf = true) (w1 : (Lit.int .u64 a1).wf = true) (w2 : (Lit.int .u64 a2).wf = true) (w3 : (Lit.int .u64 a3).wf = true) (ht : Env W) :
    Calls Tryd.prog 7 #[.int .u64 a0, .int .u64 a1, .int .u64 a2, .int .u64 a3] W fun e W' => e = .returned (.bool true) ∧ Below W.heap.size W W' := by
  obtain ⟨d, rfl, hd⟩ := nat_u64 w0
  obtain ⟨n, rfl, hn⟩ := nat_u64 w1
  obtain ⟨l, rfl, hl⟩ := nat_u64 w2
  obtain ⟨t, rfl, htt⟩ := nat_u64 w3
  have ck : Box (∀ w, Ext W w → Calls Tryd.prog 8 #[] w fun e w' => e = .returned (.bool true) ∧ Ext w w') := ⟨fun w h => known_any w (ht.ext h)⟩
  have cT : Box (∀ w, Ext W w → _) := ⟨fun w h => text_any l w hl (ht.tabs.ext h)⟩
  have cP : Box (∀ w, Ext W w → Calls Tryd.prog 24 #[.string (txt l), .int .u64 l, .int .i64 0] w fun e w' => e = .returned (.bool true) ∧ Ext w w') := ⟨fun w h => by
    have hp : parseT (txt l).data.toList = some l := parseT_txt l (by unfold never; omega)
    exact parsesf_any (txt l) l 0 w (by have := txt_size l hl; omega) (ht.ext h) (by rw [hp]; rfl) (by rw [hp]; rfl)⟩
  obtain ⟨m, hm⟩ : ∃ m, m = max n l := ⟨_, rfl⟩
  have hmn : n ≤ m := by omega
  have hml : l ≤ m := by omega
  have hmu : m < 18446744073709551616 := by omega
  have cE1 : Box (∀ w, Calls Tryd.prog 11 #[.int .u64 n, .int .u64 l] w fun e w' => e = .returned (.int .u64 m) ∧ w = w') := ⟨fun w => by rw [hm]; exact eff_any n l w hn hl⟩
  have cE2 : Box (∀ w, Calls Tryd.prog 11 #[.int .u64 m, .int .u64 n] w fun e w' => e = .returned (.int .u64 m) ∧ w = w') := ⟨fun w => by
    have := eff_any m n w hmu hn
    rwa [Nat.max_eq_left hmn] at this⟩
  obtain ⟨y, hy⟩ : ∃ y, y = addN n t := ⟨_, rfl⟩
  have hny : n ≤ y := by rw [hy]; unfold addN never; split <;> omega
  have cA : Box (∀ w, Calls Tryd.prog 9 #[.int .u64 n, .int .u64 t] w fun e w' => e = .returned (.int .u64 y) ∧ w = w') := ⟨fun w => by rw [hy]; exact add_any n t w hn htt⟩
  have cG : Box (∀ (k : Nat) (w : World), k < 8 → Calls Tryd.prog 25 #[.int .u64 l, .int .i64 k] w fun e w' => e = .returned (.tuple #[.int .u8 (WM.lane l k), .int .i64 0]) ∧ w = w') := ⟨fun k w hk => by
    have := digit_any l k w hl
    rwa [digV_in l k hk, digE_in k hk] at this⟩
  have hx : Ext W W := Below.refl _ _
  have HL : Box (l < 18446744073709551616) := ⟨hl⟩
  generalize txt l = tl at *
  have b1 : decide (m < n) = false := by simp; omega
  have b2 : decide (m < l) = false := by simp; omega
  have b3 : decide (y < n) = false := by simp; omega
  clear hm hy w0 w1 w2 w3 ht
  have hcases : d = never ∨ (d ≠ never ∧ d ≤ n) ∨ (∃ x, d ≠ never ∧ d = n + x + 1) := by
    by_cases h1 : d = never
    · exact Or.inl h1
    · by_cases h2 : d ≤ n
      · exact Or.inr (Or.inl ⟨h1, h2⟩)
      · exact Or.inr (Or.inr ⟨d - n - 1, h1, by omega⟩)
  rcases hcases with h | ⟨h, h2⟩ | ⟨x, h, h2⟩
  · subst h
    have cL : Box (∀ w, Calls Tryd.prog 17 #[.int .u64 18446744073709551615, .int .u64 n] w fun e w' => e = .returned (.int .u64 18446744073709551615) ∧ w = w') := ⟨fun w => left_any never n w hd hn⟩
    have cD : Box (∀ w, Calls Tryd.prog 15 #[.int .u64 18446744073709551615, .int .u64 n] w fun e w' => e = .returned (.bool false) ∧ w = w') := ⟨fun w => due_any never n w hd hn⟩
    show Calls Tryd.prog 7 #[.int .u64 18446744073709551615, .int .u64 n, .int .u64 l, .int .u64 t] W fun e W' => e = .returned (.bool true) ∧ Below W.heap.size W W'
    clear hd
    go_enter Tryd.func7, Tryd.ntmps7
    go_wp2_with (first
      | (go_at_call 17; (with_reducible refine (cL.out _).mono ?_); rintro e w' ⟨rfl, rfl⟩) | (go_at_call 15; (with_reducible refine (cD.out _).mono ?_); rintro e w' ⟨rfl, rfl⟩) | (go_at_call 11; (with_reducible refine (cE1.out _).mono ?_); rintro e w' ⟨rfl, rfl⟩) | (go_at_call 11; (with_reducible refine (cE2.out _).mono ?_); rintro e w' ⟨rfl, rfl⟩) | (go_at_call 9; (with_reducible refine (cA.out _).mono ?_); rintro e w' ⟨rfl, rfl⟩))
    clear cE1 cE2 cA
    go_loop [11, 12] (fun s j => ∃ k : Nat, k ≤ 8 ∧ j = .int .i64 ((k : Int) - 1) ∧ s = .int .u64 (l / 256 ^ k : Nat)) (fun _ j => ((intOf j) + 1).toNat)
    case atStart => exact ⟨8, by omega, rfl, by rw [show l / 256 ^ 8 = 0 from Nat.div_eq_of_lt HL.out]; rfl⟩
    case round =>
      obtain ⟨k, hk, rfl, rfl⟩ := hrel
      by_cases hlt : 0 < k
      · obtain ⟨q, rfl⟩ : ∃ q, k = q + 1 := ⟨k - 1, by omega⟩
        have c := Box.mk (fun w => cG.out q w (by omega))
        have hs := Box.mk (lane_step l q)
        have ht := lane_top l q HL.out (by omega)
        have hg := WM.lane_lt l q
        have e1 : ((q + 1 : Nat) : Int) - 1 = q := by omega
        rw [e1]
        generalize WM.lane l q = g at *
        generalize l / 256 ^ (q + 1) = x at *
        have e2 : bits BinOp.or IntKind.u64 ((x : Int) * 256) (g : Int) = ((x * 256 + g : Nat) : Int) := by
          have := u64_or_nat (x * 256) g (by omega) (by omega)
          rw [or_low x g hg] at this
          simpa using this
        clear cG e1 cT cP ck
        go_wp2_with (first | (go_at_call 25; (with_reducible refine (c.out _).mono ?_); rintro e w' ⟨rfl, rfl⟩))
        go_round
        case rel => exact ⟨q, by omega, rfl, by rw [← hs.out]; go_num⟩
        case measure => simp [intOf]
      · obtain rfl : k = 0 := by omega
        have e0 : l / 256 ^ 0 = l := by simp
        rw [e0]
        clear e0 cG
        go_wp2_with (first | (go_at_call 22; (with_reducible refine (cT.out _ hx).mono ?_); rintro e w1 ⟨rfl, hb⟩; have hx := Ext.trans' hx hb) | (go_at_call 24; (with_reducible refine (cP.out _ hx).mono ?_); rintro e w1 ⟨rfl, hb⟩; have hx := Ext.trans' hx hb) | (go_at_call 8; (with_reducible refine (ck.out _ hx).mono ?_); rintro e w1 ⟨rfl, hb⟩; have hx := Ext.trans' hx hb))
        go_ret
        exact ⟨rfl, hx⟩
  · have cL : Box (∀ w, Calls Tryd.prog 17 #[.int .u64 d, .int .u64 n] w fun e w' => e = .returned (.int .u64 0) ∧ w = w') := ⟨fun w => by
      have := left_any d n w hd hn
      rwa [show leftN d n = 0 by unfold leftN; rw [if_neg h, if_pos h2]] at this⟩
    have cD : Box (∀ w, Calls Tryd.prog 15 #[.int .u64 d, .int .u64 n] w fun e w' => e = .returned (.bool true) ∧ w = w') := ⟨fun w => by
      have := due_any d n w hd hn
      rwa [show dueB d n = true by unfold dueB; simp [h, h2]] at this⟩
    have cD2 : Box (∀ w, Calls Tryd.prog 15 #[.int .u64 d, .int .u64 m] w fun e w' => e = .returned (.bool true) ∧ w = w') := ⟨fun w => by
      have := due_any d m w hd hmu
      rwa [show dueB d m = true by unfold dueB; simp [h, Nat.le_trans h2 hmn]] at this⟩
    have cA0 : Box (∀ w, Calls Tryd.prog 9 #[.int .u64 n, .int .u64 0] w fun e w' => e = .returned (.int .u64 n) ∧ w = w') := ⟨fun w => by
      have := add_any n 0 w hn (by omega)
      rwa [show addN n 0 = n by unfold addN never; split <;> omega] at this⟩
    have e1 : ((d : Int) != 18446744073709551615) = true := by unfold never at h; rw [bne_iff_ne]; omega
    have e2 : ((d : Int) == 18446744073709551615) = false := by unfold never at h; rw [beq_eq_false_iff_ne]; omega
    clear h h2
    go_enter Tryd.func7, Tryd.ntmps7
    go_wp2_with (first
      | (go_at_call 17; (with_reducible refine (cL.out _).mono ?_); rintro e w' ⟨rfl, rfl⟩) | (go_at_call 15; (with_reducible refine (cD.out _).mono ?_); rintro e w' ⟨rfl, rfl⟩) | (go_at_call 15; (with_reducible refine (cD2.out _).mono ?_); rintro e w' ⟨rfl, rfl⟩) | (go_at_call 11; (with_reducible refine (cE1.out _).mono ?_); rintro e w' ⟨rfl, rfl⟩) | (go_at_call 11; (with_reducible refine (cE2.out _).mono ?_); rintro e w' ⟨rfl, rfl⟩) | (go_at_call 9; (with_reducible refine (cA.out _).mono ?_); rintro e w' ⟨rfl, rfl⟩) | (go_at_call 9; (with_reducible refine (cA0.out _).mono ?_); rintro e w' ⟨rfl, rfl⟩))
    clear cE1 cE2 cA
    go_loop [11, 12] (fun s j => ∃ k : Nat, k ≤ 8 ∧ j = .int .i64 ((k : Int) - 1) ∧ s = .int .u64 (l / 256 ^ k : Nat)) (fun _ j => ((intOf j) + 1).toNat)
    case atStart => exact ⟨8, by omega, rfl, by rw [show l / 256 ^ 8 = 0 from Nat.div_eq_of_lt HL.out]; rfl⟩
    case round =>
      obtain ⟨k, hk, rfl, rfl⟩ := hrel
      by_cases hlt : 0 < k
      · obtain ⟨q, rfl⟩ : ∃ q, k = q + 1 := ⟨k - 1, by omega⟩
        have c := Box.mk (fun w => cG.out q w (by omega))
        have hs := Box.mk (lane_step l q)
        have ht := lane_top l q HL.out (by omega)
        have hg := WM.lane_lt l q
        have e1 : ((q + 1 : Nat) : Int) - 1 = q := by omega
        rw [e1]
        generalize WM.lane l q = g at *
        generalize l / 256 ^ (q + 1) = x at *
        have e2 : bits BinOp.or IntKind.u64 ((x : Int) * 256) (g : Int) = ((x * 256 + g : Nat) : Int) := by
          have := u64_or_nat (x * 256) g (by omega) (by omega)
          rw [or_low x g hg] at this
          simpa using this
        clear cG e1 cT cP ck
        go_wp2_with (first | (go_at_call 25; (with_reducible refine (c.out _).mono ?_); rintro e w' ⟨rfl, rfl⟩))
        go_round
        case rel => exact ⟨q, by omega, rfl, by rw [← hs.out]; go_num⟩
        case measure => simp [intOf]
      · obtain rfl : k = 0 := by omega
        have e0 : l / 256 ^ 0 = l := by simp
        rw [e0]
        clear e0 cG
        go_wp2_with (first | (go_at_call 22; (with_reducible refine (cT.out _ hx).mono ?_); rintro e w1 ⟨rfl, hb⟩; have hx := Ext.trans' hx hb) | (go_at_call 24; (with_reducible refine (cP.out _ hx).mono ?_); rintro e w1 ⟨rfl, hb⟩; have hx := Ext.trans' hx hb) | (go_at_call 8; (with_reducible refine (ck.out _ hx).mono ?_); rintro e w1 ⟨rfl, hb⟩; have hx := Ext.trans' hx hb))
        go_ret
        exact ⟨rfl, hx⟩
  · have cL : Box (∀ w, Calls Tryd.prog 17 #[.int .u64 d, .int .u64 n] w fun e w' => e = .returned (.int .u64 ((x : Int) + 1)) ∧ w = w') := ⟨fun w => by
      have := left_any d n w hd hn
      rwa [show leftN d n = x + 1 by unfold leftN; rw [if_neg h, if_neg (by omega)]; omega] at this⟩
    have cD : Box (∀ w, Calls Tryd.prog 15 #[.int .u64 d, .int .u64 n] w fun e w' => e = .returned (.bool false) ∧ w = w') := ⟨fun w => by
      have := due_any d n w hd hn
      rwa [show dueB d n = false by unfold dueB; simp; omega] at this⟩
    have cD2 : Box (∀ w, Calls Tryd.prog 15 #[.int .u64 d, .int .u64 d] w fun e w' => e = .returned (.bool true) ∧ w = w') := ⟨fun w => by
      have := due_any d d w hd hd
      rwa [show dueB d d = true by unfold dueB; simp [h]] at this⟩
    obtain ⟨d1, hd1⟩ : ∃ d1, d1 = n + x := ⟨_, rfl⟩
    have cD3 : Box (∀ w, Calls Tryd.prog 15 #[.int .u64 d, .int .u64 d1] w fun e w' => e = .returned (.bool false) ∧ w = w') := ⟨fun w => by
      have := due_any d d1 w hd (by omega)
      rwa [show dueB d d1 = false by unfold dueB; simp; omega] at this⟩
    have cA0 : Box (∀ w, Calls Tryd.prog 9 #[.int .u64 n, .int .u64 ((x : Int) + 1)] w fun e w' => e = .returned (.int .u64 d) ∧ w = w') := ⟨fun w => by
      have := add_any n (x + 1) w hn (by omega)
      rwa [show addN n (x + 1) = d by unfold addN; unfold never at h ⊢; split <;> omega] at this⟩
    have cA1 : Box (∀ w, Calls Tryd.prog 9 #[.int .u64 n, .int .u64 x] w fun e w' => e = .returned (.int .u64 d1) ∧ w = w') := ⟨fun w => by
      have := add_any n x w hn (by omega)
      rwa [show addN n x = d1 by unfold addN; unfold never at h ⊢; split <;> omega] at this⟩
    have e1 : ((d : Int) != 18446744073709551615) = true := by unfold never at h; rw [bne_iff_ne]; omega
    have e2 : ((d : Int) == 18446744073709551615) = false := by unfold never at h; rw [beq_eq_false_iff_ne]; omega
    have e3 : ((x : Int) + 1 == 0) = false := by rw [beq_eq_false_iff_ne]; omega
    have hxu : x < 18446744073709551615 := by omega
    clear h h2 hd1
    go_enter Tryd.func7, Tryd.ntmps7
    go_wp2_with (first
      | (go_at_call 17; (with_reducible refine (cL.out _).mono ?_); rintro e w' ⟨rfl, rfl⟩) | (go_at_call 15; (with_reducible refine (cD.out _).mono ?_); rintro e w' ⟨rfl, rfl⟩) | (go_at_call 15; (with_reducible refine (cD2.out _).mono ?_); rintro e w' ⟨rfl, rfl⟩) | (go_at_call 15; (with_reducible refine (cD3.out _).mono ?_); rintro e w' ⟨rfl, rfl⟩) | (go_at_call 11; (with_reducible refine (cE1.out _).mono ?_); rintro e w' ⟨rfl, rfl⟩) | (go_at_call 11; (with_reducible refine (cE2.out _).mono ?_); rintro e w' ⟨rfl, rfl⟩) | (go_at_call 9; (with_reducible refine (cA.out _).mono ?_); rintro e w' ⟨rfl, rfl⟩) | (go_at_call 9; (with_reducible refine (cA0.out _).mono ?_); rintro e w' ⟨rfl, rfl⟩) | (go_at_call 9; (with_reducible refine (cA1.out _).mono ?_); rintro e w' ⟨rfl, rfl⟩))
    clear cE1 cE2 cA
    go_loop [11, 12] (fun s j => ∃ k : Nat, k ≤ 8 ∧ j = .int .i64 ((k : Int) - 1) ∧ s = .int .u64 (l / 256 ^ k : Nat)) (fun _ j => ((intOf j) + 1).toNat)
    case atStart => exact ⟨8, by omega, rfl, by rw [show l / 256 ^ 8 = 0 from Nat.div_eq_of_lt HL.out]; rfl⟩
    case round =>
      obtain ⟨k, hk, rfl, rfl⟩ := hrel
      by_cases hlt : 0 < k
      · obtain ⟨q, rfl⟩ : ∃ q, k = q + 1 := ⟨k - 1, by omega⟩
        have c := Box.mk (fun w => cG.out q w (by omega))
        have hs := Box.mk (lane_step l q)
        have ht := lane_top l q HL.out (by omega)
        have hg := WM.lane_lt l q
        have e1 : ((q + 1 : Nat) : Int) - 1 = q := by omega
        rw [e1]
        generalize WM.lane l q = g at *
        generalize l / 256 ^ (q + 1) = x at *
        have e2 : bits BinOp.or IntKind.u64 ((x : Int) * 256) (g : Int) = ((x * 256 + g : Nat) : Int) := by
          have := u64_or_nat (x * 256) g (by omega) (by omega)
          rw [or_low x g hg] at this
          simpa using this
        clear cG e1 cT cP ck
        go_wp2_with (first | (go_at_call 25; (with_reducible refine (c.out _).mono ?_); rintro e w' ⟨rfl, rfl⟩))
        go_round
        case rel => exact ⟨q, by omega, rfl, by rw [← hs.out]; go_num⟩
        case measure => simp [intOf]
      · obtain rfl : k = 0 := by omega
        have e0 : l / 256 ^ 0 = l := by simp
        rw [e0]
        clear e0 cG
        go_wp2_with (first | (go_at_call 22; (with_reducible refine (cT.out _ hx).mono ?_); rintro e w1 ⟨rfl, hb⟩; have hx := Ext.trans' hx hb) | (go_at_call 24; (with_reducible refine (cP.out _ hx).mono ?_); rintro e w1 ⟨rfl, hb⟩; have hx := Ext.trans' hx hb) | (go_at_call 8; (with_reducible refine (ck.out _ hx).mono ?_); rintro e w1 ⟨rfl, hb⟩; have hx := Ext.trans' hx hb))
        go_ret
        exact ⟨rfl, hx⟩
end Go.Proofs.YtkllfeoepbahlaaDoor
