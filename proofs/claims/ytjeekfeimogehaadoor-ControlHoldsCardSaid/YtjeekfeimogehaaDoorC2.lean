import Derived.Test.YtjeekfeimogehaaDoorC1
/- Contracts of package control and of its reference: Match, Blank; the reference's Valid, Match, Empties, Free, Full. -/
namespace Go.Proofs.YtjeekfeimogehaaDoor
open Go.RowKit

/-- The answer of Match. -/
def cmatch (W t : Nat) : Nat := if t < 128 then WM.matchN W t else 0

set_option maxHeartbeats 400000 in
theorem cmatch_any (W t : Int) (w : World) (h0 : 0 ≤ W) (h1 : W < 18446744073709551616) (h2 : 0 ≤ t) (h3 : t ≤ 255) :
    Calls Tryd.prog 10 #[.int .u64 W, .int .u8 t] w fun e w' => e = .returned (.int .u8 (cmatch W.toNat t.toNat)) ∧ w = w' := by
  have c1 : Box _ := ⟨fun w => match_any W t w h0 h1 h2 h3⟩
  by_cases h : t ≤ 127
  · have e : cmatch W.toNat t.toNat = WM.matchN W.toNat t.toNat := by unfold cmatch; rw [if_pos (by omega)]
    rw [e]
    clear h0 h1 e
    generalize WM.matchN W.toNat t.toNat = x at *
    go_enter Tryd.func10, Tryd.ntmps10
    go_wp2_with (first | (go_at_call 30; (with_reducible refine (c1.out _).mono ?_); rintro e w' ⟨rfl, rfl⟩))
    go_ret
    exact ⟨rfl, rfl⟩
  · have e : cmatch W.toNat t.toNat = 0 := by unfold cmatch; rw [if_neg (by omega)]
    rw [e]
    clear h0 h1 e
    go_enter Tryd.func10, Tryd.ntmps10
    go_wp2
    go_ret
    exact ⟨rfl, rfl⟩

set_option maxHeartbeats 400000 in
theorem blank_any (w : World) : Calls Tryd.prog 18 #[] w fun e w' => e = .returned (.int .u64 (repI 128)) ∧ w = w' := by
  have c1 : Box _ := ⟨fun w => repeat_any 128 w (by omega) (by omega)⟩
  generalize repI 128 = x at *
  go_enter Tryd.func18, Tryd.ntmps18
  go_wp2_with (first | (go_at_call 33; (with_reducible refine (c1.out _).mono ?_); rintro e w' ⟨rfl, rfl⟩))
  go_ret
  exact ⟨rfl, rfl⟩

set_option maxHeartbeats 400000 in
theorem refCmatch_any (W t : Int) (w : World) (h0 : 0 ≤ W) (h1 : W < 18446744073709551616) (h2 : 0 ≤ t) (h3 : t ≤ 255) :
    Calls Tryd.prog 11 #[.int .u64 W, .int .u8 t] w fun e w' => e = .returned (.int .u8 (cmatch W.toNat t.toNat)) ∧ Below w.heap.size w w' := by
  have c1 : Box _ := ⟨fun w => refMatch_any W t t w h0 h1 h2 h3 h2 h3⟩
  by_cases h : t ≤ 127
  · have e : cmatch W.toNat t.toNat = WM.rangeN W.toNat t.toNat t.toNat := by unfold cmatch; rw [if_pos (by omega), WM.match_range]
    rw [e]
    clear h0 h1 e
    generalize WM.rangeN W.toNat t.toNat t.toNat = x at *
    go_enter Tryd.func11, Tryd.ntmps11
    go_wp2_with (first | (go_at_call 31; (with_reducible refine (c1.out _).mono ?_); rintro e w' ⟨rfl, hb⟩))
    go_ret
    exact ⟨rfl, hb⟩
  · have e : cmatch W.toNat t.toNat = 0 := by unfold cmatch; rw [if_neg (by omega)]
    rw [e]
    clear h0 h1 e
    go_enter Tryd.func11, Tryd.ntmps11
    go_wp2
    go_ret
    exact ⟨rfl, Below.refl _ _⟩

set_option maxHeartbeats 400000 in
theorem refEmpties_any (W : Int) (w : World) (h0 : 0 ≤ W) (h1 : W < 18446744073709551616) :
    Calls Tryd.prog 13 #[.int .u64 W] w fun e w' => e = .returned (.int .u8 (WM.matchN W.toNat 128)) ∧ Below w.heap.size w w' := by
  have c1 : Box _ := ⟨fun w => refMatch_any W 128 128 w h0 h1 (by omega) (by omega) (by omega) (by omega)⟩
  rw [show (128 : Int).toNat = 128 from rfl, ← WM.match_range] at c1
  clear h0 h1
  generalize WM.matchN W.toNat 128 = x at *
  go_enter Tryd.func13, Tryd.ntmps13
  go_wp2_with (first | (go_at_call 31; (with_reducible refine (c1.out _).mono ?_); rintro e w' ⟨rfl, hb⟩))
  go_ret
  exact ⟨rfl, hb⟩

set_option maxHeartbeats 400000 in
theorem refFull_any (W : Int) (w : World) (h0 : 0 ≤ W) (h1 : W < 18446744073709551616) :
    Calls Tryd.prog 17 #[.int .u64 W] w fun e w' => e = .returned (.int .u8 (WM.fullN W.toNat)) ∧ Below w.heap.size w w' := by
  have c1 : Box _ := ⟨fun w => refMatch_any W 0 127 w h0 h1 (by omega) (by omega) (by omega) (by omega)⟩
  rw [show (127 : Int).toNat = 127 from rfl, show (0 : Int).toNat = 0 from rfl, WM.full_range] at c1
  clear h0 h1
  generalize WM.fullN W.toNat = x at *
  go_enter Tryd.func17, Tryd.ntmps17
  go_wp2_with (first | (go_at_call 31; (with_reducible refine (c1.out _).mono ?_); rintro e w' ⟨rfl, hb⟩))
  go_ret
  exact ⟨rfl, hb⟩

set_option maxHeartbeats 400000 in
theorem refFree_any (W : Int) (w : World) (h0 : 0 ≤ W) (h1 : W < 18446744073709551616) :
    Calls Tryd.prog 15 #[.int .u64 W] w fun e w' => e = .returned (.int .u8 (WM.freeN W.toNat)) ∧ Below w.heap.size w w' := by
  have c1 : Box _ := ⟨fun w => refEmpties_any W w h0 h1⟩
  have c2 : Box _ := ⟨fun w => refMatch_any W 254 254 w h0 h1 (by omega) (by omega) (by omega) (by omega)⟩
  rw [show (254 : Int).toNat = 254 from rfl, ← WM.match_range] at c2
  have hf : Box _ := ⟨u8_or_nat _ _ (WM.matchN_lt W.toNat 128) (WM.matchN_lt W.toNat 254)⟩
  rw [WM.free_eq] at hf
  clear h0 h1
  generalize WM.matchN W.toNat 128 = x at *
  generalize WM.matchN W.toNat 254 = y at *
  generalize WM.freeN W.toNat = z at *
  go_enter Tryd.func15, Tryd.ntmps15
  go_wp2_with (first | (go_at_call 13; (with_reducible refine (c1.out _).mono ?_); rintro e w1 ⟨rfl, hb1⟩) | (go_at_call 31; (with_reducible refine (c2.out _).mono ?_); rintro e w2 ⟨rfl, hb2⟩))
  go_ret
  exact ⟨ret_int hf.out, Ext.trans' hb1 hb2⟩

set_option maxHeartbeats 1000000 in
theorem refValid_any (W : Int) (w : World) (h0 : 0 ≤ W) (h1 : W < 18446744073709551616) :
    Calls Tryd.prog 9 #[.int .u64 W] w fun e w' => e = .returned (.bool (WM.validN W.toNat)) ∧ Below w.heap.size w w' := by
  have c0 : Box _ := ⟨fun w => refBytes_any W w h0 h1⟩
  have hb : ∀ i, Box (∀ w, Calls Tryd.prog 29 #[.int .u8 (WM.lane W.toNat i)] w fun e w' => e = .returned (.bool (WM.okB (WM.lane W.toNat i))) ∧ w = w') := fun i => ⟨fun w => byte_any _ w (WM.lane_lt _ _)⟩
  have b0 := hb 0; have b1 := hb 1; have b2 := hb 2; have b3 := hb 3; have b4 := hb 4; have b5 := hb 5; have b6 := hb 6; have b7 := hb 7
  clear h0 h1 hb
  unfold WM.validN WM.all8B
  dsimp only
  unfold A8 at c0
  generalize WM.lane W.toNat 0 = l0 at *; generalize WM.lane W.toNat 1 = l1 at *; generalize WM.lane W.toNat 2 = l2 at *; generalize WM.lane W.toNat 3 = l3 at *
  generalize WM.lane W.toNat 4 = l4 at *; generalize WM.lane W.toNat 5 = l5 at *; generalize WM.lane W.toNat 6 = l6 at *; generalize WM.lane W.toNat 7 = l7 at *
  generalize WM.okB l0 = k0 at *; generalize WM.okB l1 = k1 at *; generalize WM.okB l2 = k2 at *; generalize WM.okB l3 = k3 at *
  generalize WM.okB l4 = k4 at *; generalize WM.okB l5 = k5 at *; generalize WM.okB l6 = k6 at *; generalize WM.okB l7 = k7 at *
  go_enter Tryd.func9, Tryd.ntmps9
  go_wp2_with (first | (go_at_call 28; (with_reducible refine (c0.out _).mono ?_); rintro e w1 ⟨rfl, hb⟩))
  refine wp_loop_rounds 9 ?_
  repeat any_goals (rw [rounds_succ]; go_wp2_with (go_at_call 29; (first | with_reducible refine (b0.out _).mono ?_ | with_reducible refine (b1.out _).mono ?_ | with_reducible refine (b2.out _).mono ?_ | with_reducible refine (b3.out _).mono ?_ | with_reducible refine (b4.out _).mono ?_ | with_reducible refine (b5.out _).mono ?_ | with_reducible refine (b6.out _).mono ?_ | with_reducible refine (b7.out _).mono ?_); rintro e w' ⟨rfl, rfl⟩))
  all_goals go_ret
  all_goals refine ⟨ret_bool (by simp_all), Ext.alloc hb _⟩
end Go.Proofs.YtjeekfeimogehaaDoor
