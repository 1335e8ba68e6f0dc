import Derived.Test.YtjeekfeimogehaaDoorC3
/- Contract of the reference's Erase. -/
namespace Go.Proofs.YtjeekfeimogehaaDoor
open Go.RowKit

set_option maxHeartbeats 1000000 in
theorem refErase_any (W l : Int) (w : World) (h0 : 0 ≤ W) (h1 : W < 18446744073709551616) :
    Calls Tryd.prog 24 #[.int .u64 W, .int .i64 l] w fun e w' => e = .returned (.tuple #[.int .u64 (eraV W.toNat l), .int .i64 (eraE W.toNat l)]) ∧ Below w.heap.size w w' := by
  have c1 : Box _ := ⟨fun w => refValid_any W w h0 h1⟩
  by_cases hk : checkN W.toNat l = 0
  · have hk' := (checkN_zero _ _).1 hk
    have c2 : Box _ := ⟨fun w => refEmpties_any W w h0 h1⟩
    have c3 : Box _ := ⟨fun w => refLane_any W l w h0 h1 hk'.2.1 (by omega)⟩
    have c4 : Box _ := ⟨fun w => refWith_any W l (eraC W.toNat) w h0 h1 hk'.2.1 hk'.2.2 (by omega) (by unfold eraC; split <;> omega)⟩
    simp only [Int.toNat_natCast] at c4
    have eE : eraE W.toNat l = if 127 < WM.lane W.toNat l.toNat then 8 else 0 := by unfold eraE; rw [if_neg (by simp [hk])]
    have eV : eraV W.toNat l = if 127 < WM.lane W.toNat l.toNat then 0 else WM.withN W.toNat l.toNat (eraC W.toNat) := by
      unfold eraV
      by_cases h : 127 < WM.lane W.toNat l.toNat
      · rw [if_pos h, if_pos (by simp [h])]
      · rw [if_neg h, if_neg (by simp [hk'.1, h]; omega)]
    rw [eE, eV]
    rw [hk'.1] at c1
    have hC : eraC W.toNat = if WM.matchN W.toNat 128 = 0 then 254 else 128 := rfl
    rw [hC] at c4 ⊢
    obtain ⟨-, hl0, hl7⟩ := hk'
    clear eE eV hC hk h0 h1
    generalize WM.lane W.toNat l.toNat = L at *
    generalize WM.matchN W.toNat 128 = E at *
    by_cases hl : 127 < L
    · rw [if_pos hl, if_pos hl]
      have hL : (127 : Int) < (L : Int) := by omega
      clear c4 hl
      go_enter Tryd.func24, Tryd.ntmps24
      go_wp2_with (first | (go_at_call 9; (with_reducible refine (c1.out _).mono ?_); rintro e w' ⟨rfl, hb⟩) | (go_at_call 27; (with_reducible refine (c3.out _).mono ?_); rintro e w' ⟨rfl, rfl⟩))
      go_ret2
      exact ⟨rfl, hb⟩
    · rw [if_neg hl, if_neg hl]
      have hL : (L : Int) ≤ 127 := by omega
      clear hl
      by_cases hE : E = 0
      · subst hE
        rw [if_pos rfl] at c4 ⊢
        simp only [Int.cast_ofNat_Int] at c4 c2
        go_enter Tryd.func24, Tryd.ntmps24
        go_wp2_with (first | (go_at_call 9; (with_reducible refine (c1.out _).mono ?_); rintro e w' ⟨rfl, hb⟩) | (go_at_call 27; (with_reducible refine (c3.out _).mono ?_); rintro e w' ⟨rfl, rfl⟩) | (go_at_call 13; (with_reducible refine (c2.out _).mono ?_); rintro e w1 ⟨rfl, hb1⟩) | (go_at_call 38; (with_reducible refine (c4.out _).mono ?_); rintro e w2 ⟨rfl, hb2⟩))
        go_ret2
        exact ⟨rfl, Ext.trans' (Ext.trans' hb hb1) hb2⟩
      · have hE' : ((E : Int) == 0) = false := by simp; omega
        rw [if_neg hE] at c4 ⊢
        simp only [Int.cast_ofNat_Int] at c4
        clear hE
        go_enter Tryd.func24, Tryd.ntmps24
        go_wp2_with (first | (go_at_call 9; (with_reducible refine (c1.out _).mono ?_); rintro e w' ⟨rfl, hb⟩) | (go_at_call 27; (with_reducible refine (c3.out _).mono ?_); rintro e w' ⟨rfl, rfl⟩) | (go_at_call 13; (with_reducible refine (c2.out _).mono ?_); rintro e w1 ⟨rfl, hb1⟩) | (go_at_call 38; (with_reducible refine (c4.out _).mono ?_); rintro e w2 ⟨rfl, hb2⟩))
        go_ret2
        exact ⟨rfl, Ext.trans' (Ext.trans' hb hb1) hb2⟩
  · rw [eraV_bad _ _ hk, eraE_bad _ _ hk]
    unfold checkN at hk ⊢
    generalize WM.validN W.toNat = v at *
    clear h0 h1
    cases v
    · rw [if_pos rfl]
      clear hk
      go_enter Tryd.func24, Tryd.ntmps24
      go_wp2_with (first | (go_at_call 9; (with_reducible refine (c1.out _).mono ?_); rintro e w' ⟨rfl, hb⟩))
      go_ret2
      exact ⟨rfl, hb⟩
    · rw [if_neg (by decide)] at hk ⊢
      by_cases h : l < 0 ∨ 7 < l
      · rw [if_pos h]
        clear hk
        rcases h with h | h
        all_goals
          go_enter Tryd.func24, Tryd.ntmps24
          go_wp2_with (first | (go_at_call 9; (with_reducible refine (c1.out _).mono ?_); rintro e w' ⟨rfl, hb⟩))
          go_ret2
          exact ⟨rfl, hb⟩
      · rw [if_neg h] at hk; exact absurd rfl hk
end Go.Proofs.YtjeekfeimogehaaDoor
