import Derived.Test.YtjeekfeimogehaaDoorC2
/- Contracts of package control and of its reference: check, Set, Erase. -/
namespace Go.Proofs.YtjeekfeimogehaaDoor
open Go.RowKit

theorem set8_bit (c : Nat → Bool) (i : Nat) (hi : i < 8) : WM.set8 c / 2 ^ i % 2 = (c i).toNat := by
  have h0 := WM.bool_lt (c 0); have h1 := WM.bool_lt (c 1); have h2 := WM.bool_lt (c 2); have h3 := WM.bool_lt (c 3)
  have h4 := WM.bool_lt (c 4); have h5 := WM.bool_lt (c 5); have h6 := WM.bool_lt (c 6); have h7 := WM.bool_lt (c 7)
  unfold WM.set8
  rcases lt8_nat i hi with rfl | rfl | rfl | rfl | rfl | rfl | rfl | rfl <;> simp <;> omega

/-- The error of a group and a lane. -/
def checkN (W : Nat) (l : Int) : Int := if WM.validN W = false then 2 else if l < 0 ∨ 7 < l then 3 else 0

set_option maxHeartbeats 400000 in
theorem check_any (W l : Int) (w : World) (h0 : 0 ≤ W) (h1 : W < 18446744073709551616) :
    Calls Tryd.prog 36 #[.int .u64 W, .int .i64 l] w fun e w' => e = .returned (.int .i64 (checkN W.toNat l)) ∧ w = w' := by
  have c1 : Box _ := ⟨fun w => valid_any W w h0 h1⟩
  clear h0 h1
  unfold checkN
  generalize WM.validN W.toNat = v at *
  cases v
  · rw [if_pos rfl]
    go_enter Tryd.func36, Tryd.ntmps36
    go_wp2_with (first | (go_at_call 8; (with_reducible refine (c1.out _).mono ?_); rintro e w' ⟨rfl, rfl⟩))
    go_ret
    exact ⟨rfl, rfl⟩
  · rw [if_neg (by decide)]
    by_cases h : l < 0 ∨ 7 < l
    · rw [if_pos h]
      rcases h with h | h
      all_goals
        go_enter Tryd.func36, Tryd.ntmps36
        go_wp2_with (first | (go_at_call 8; (with_reducible refine (c1.out _).mono ?_); rintro e w' ⟨rfl, rfl⟩))
        all_goals go_ret
        all_goals exact ⟨rfl, rfl⟩
    · rw [if_neg h]
      obtain ⟨ha, hb⟩ : 0 ≤ l ∧ l ≤ 7 := by omega
      clear h
      go_enter Tryd.func36, Tryd.ntmps36
      go_wp2_with (first | (go_at_call 8; (with_reducible refine (c1.out _).mono ?_); rintro e w' ⟨rfl, rfl⟩))
      go_ret
      exact ⟨rfl, rfl⟩

/-- The answer of Set: the word and the error. -/
def setV (W : Nat) (l : Int) (c : Nat) : Nat := if WM.okB c = false ∨ WM.validN W = false ∨ l < 0 ∨ 7 < l then 0 else WM.withN W l.toNat c
def setE (W : Nat) (l : Int) (c : Nat) : Int := if WM.okB c = false then 2 else checkN W l
/-- The answer of Erase. -/
def eraC (W : Nat) : Nat := if WM.matchN W 128 = 0 then 254 else 128
def eraV (W : Nat) (l : Int) : Nat := if WM.validN W = false ∨ l < 0 ∨ 7 < l ∨ 127 < WM.lane W l.toNat then 0 else WM.withN W l.toNat (eraC W)
def eraE (W : Nat) (l : Int) : Int := if checkN W l ≠ 0 then checkN W l else if 127 < WM.lane W l.toNat then 8 else 0

theorem checkN_zero (W : Nat) (l : Int) : checkN W l = 0 ↔ WM.validN W = true ∧ 0 ≤ l ∧ l ≤ 7 := by
  unfold checkN
  cases WM.validN W <;> simp <;> try omega

set_option maxHeartbeats 1000000 in
theorem cset_any (W l c : Int) (w : World) (h0 : 0 ≤ W) (h1 : W < 18446744073709551616) (h2 : 0 ≤ c) (h3 : c ≤ 255) :
    Calls Tryd.prog 21 #[.int .u64 W, .int .i64 l, .int .u8 c] w fun e w' => e = .returned (.tuple #[.int .u64 (setV W.toNat l c.toNat), .int .i64 (setE W.toNat l c.toNat)]) ∧ ∃ q, w' = w.drewN q := by
  obtain ⟨c, rfl⟩ := Int.eq_ofNat_of_zero_le h2
  rw [Int.toNat_natCast]
  have c1 : Box _ := ⟨fun w => check_any W l w h0 h1⟩
  have c2 : Box (0 ≤ l ∧ l ≤ 7 → ∀ w, _) := ⟨fun h w => with_any W l c w h0 h1 h.1 h.2 h2 h3⟩
  rw [Int.toNat_natCast] at c2
  clear h0 h1
  by_cases hc : WM.okB c = true
  · have hcc : c < 128 ∨ c = 128 ∨ c = 254 := by unfold WM.okB at hc; simp at hc; omega
    have eE : setE W.toNat l c = checkN W.toNat l := by unfold setE; rw [if_neg (by simp [hc])]
    rw [eE]
    by_cases hk : checkN W.toNat l = 0
    · have hk' := (checkN_zero _ _).1 hk
      have eV : setV W.toNat l c = WM.withN W.toNat l.toNat c := by unfold setV; rw [if_neg (by simp [hc, hk'.1]; omega)]
      rw [eV]
      have c2 := Box.mk (c2.out hk'.2)
      rw [hk] at c1 ⊢
      clear hk hk' eV eE hc h2 h3
      generalize WM.withN W.toNat l.toNat c = x at *
      rcases hcc with hcc | rfl | rfl
      all_goals
        try simp only [Int.cast_ofNat_Int] at c2
        go_enter Tryd.func21, Tryd.ntmps21
        go_wp2_with (first | (go_at_call 36; (with_reducible refine (c1.out _).mono ?_); rintro e w' ⟨rfl, rfl⟩) | (go_at_call 37; (with_reducible refine (c2.out _).mono ?_); rintro e w' ⟨rfl, q, rfl⟩))
        go_ret2
        exact ⟨rfl, ⟨_, rfl⟩⟩
    · have eV : setV W.toNat l c = 0 := by
        unfold setV; rw [if_pos]
        rw [checkN_zero] at hk
        rcases hv : WM.validN W.toNat with _ | _
        · simp
        · simp [hv] at hk; omega
      rw [eV]
      clear eV eE hc h2 h3
      generalize checkN W.toNat l = x at *
      rcases hcc with hcc | rfl | rfl
      all_goals
        go_enter Tryd.func21, Tryd.ntmps21
        go_wp2_with (first | (go_at_call 36; (with_reducible refine (c1.out _).mono ?_); rintro e w' ⟨rfl, rfl⟩))
        go_ret2
        exact ⟨rfl, ⟨0, rfl⟩⟩
  · have hc' : WM.okB c = false := by simpa using hc
    have eE : setE W.toNat l c = 2 := by unfold setE; rw [if_pos hc']
    have eV : setV W.toNat l c = 0 := by unfold setV; rw [if_pos (Or.inl hc')]
    have hcc : 127 < c ∧ c ≠ 128 ∧ c ≠ 254 := by unfold WM.okB at hc; simp at hc; omega
    obtain ⟨ha, hb, hd⟩ := hcc
    rw [eE, eV]
    have hb' : ((c : Int) != 128) = true := by simp; omega
    have hd' : ((c : Int) != 254) = true := by simp; omega
    have ha' : (127 < (c : Int)) := by omega
    clear eE eV hc hc' hb hd ha
    go_enter Tryd.func21, Tryd.ntmps21
    go_wp2
    go_ret2
    exact ⟨rfl, ⟨0, rfl⟩⟩

set_option maxHeartbeats 1000000 in
theorem refCset_any (W l c : Int) (w : World) (h0 : 0 ≤ W) (h1 : W < 18446744073709551616) (h2 : 0 ≤ c) (h3 : c ≤ 255) :
    Calls Tryd.prog 22 #[.int .u64 W, .int .i64 l, .int .u8 c] w fun e w' => e = .returned (.tuple #[.int .u64 (setV W.toNat l c.toNat), .int .i64 (setE W.toNat l c.toNat)]) ∧ Below w.heap.size w w' := by
  obtain ⟨c, rfl⟩ := Int.eq_ofNat_of_zero_le h2
  rw [Int.toNat_natCast]
  have c1 : Box _ := ⟨fun w => refValid_any W w h0 h1⟩
  have c2 : Box _ := ⟨fun w => byte_any c w (by omega)⟩
  have c3 : Box (0 ≤ l ∧ l ≤ 7 → ∀ w, _) := ⟨fun h w => refWith_any W l c w h0 h1 h.1 h.2 h2 h3⟩
  have c4 : Box (l < 0 ∨ 7 < l → ∀ w, _) := ⟨fun h w => refWith_bad W l c w h⟩
  rw [Int.toNat_natCast] at c3
  clear h0 h1 h2 h3
  unfold setE setV checkN
  generalize WM.validN W.toNat = v at *
  generalize WM.okB c = k at *
  generalize WM.withN W.toNat l.toNat c = x at *
  cases v
  · rw [if_pos (Or.inr (Or.inl rfl)), if_pos rfl, ite_self]
    go_enter Tryd.func22, Tryd.ntmps22
    go_wp2_with (first | (go_at_call 9; (with_reducible refine (c1.out _).mono ?_); rintro e w' ⟨rfl, hb⟩))
    go_ret2
    exact ⟨rfl, hb⟩
  · cases k
    · rw [if_pos (Or.inl rfl), if_pos rfl]
      go_enter Tryd.func22, Tryd.ntmps22
      go_wp2_with (first | (go_at_call 9; (with_reducible refine (c1.out _).mono ?_); rintro e w' ⟨rfl, hb⟩) | (go_at_call 29; (with_reducible refine (c2.out _).mono ?_); rintro e w' ⟨rfl, rfl⟩))
      go_ret2
      exact ⟨rfl, hb⟩
    · by_cases h : l < 0 ∨ 7 < l
      · rw [if_pos (Or.inr (Or.inr h)), if_neg (by decide), if_neg (by decide), if_pos h]
        have c4 := Box.mk (c4.out h)
        clear h
        go_enter Tryd.func22, Tryd.ntmps22
        go_wp2_with (first | (go_at_call 9; (with_reducible refine (c1.out _).mono ?_); rintro e w' ⟨rfl, hb⟩) | (go_at_call 29; (with_reducible refine (c2.out _).mono ?_); rintro e w' ⟨rfl, rfl⟩) | (go_at_call 38; (with_reducible refine (c4.out _).mono ?_); rintro e w' ⟨rfl, rfl⟩))
        go_ret2
        exact ⟨rfl, hb⟩
      · rw [if_neg (by simp; omega), if_neg (by decide), if_neg (by decide), if_neg h]
        have c3 := Box.mk (c3.out (by omega))
        clear h
        go_enter Tryd.func22, Tryd.ntmps22
        go_wp2_with (first | (go_at_call 9; (with_reducible refine (c1.out _).mono ?_); rintro e w' ⟨rfl, hb⟩) | (go_at_call 29; (with_reducible refine (c2.out _).mono ?_); rintro e w' ⟨rfl, rfl⟩) | (go_at_call 38; (with_reducible refine (c3.out _).mono ?_); rintro e w' ⟨rfl, hb2⟩))
        go_ret2
        exact ⟨rfl, Ext.trans' hb hb2⟩

theorem eraV_bad (W : Nat) (l : Int) (h : checkN W l ≠ 0) : eraV W l = 0 := by
  unfold eraV; rw [if_pos]
  rw [Ne, checkN_zero] at h
  rcases hv : WM.validN W with _ | _
  · exact Or.inl rfl
  · simp [hv] at h; omega
theorem eraE_bad (W : Nat) (l : Int) (h : checkN W l ≠ 0) : eraE W l = checkN W l := by unfold eraE; rw [if_pos h]

theorem full_bit (W i : Nat) (hi : i < 8) : WM.fullN W / 2 ^ i % 2 = if 127 < WM.lane W i then 0 else 1 := by
  unfold WM.fullN; rw [set8_bit _ i hi]
  by_cases h : 127 < WM.lane W i
  · rw [if_pos h]; simp; omega
  · rw [if_neg h]; simp; omega

theorem and1 (F i : Nat) (hF : F < 256) : bits BinOp.and IntKind.u8 ((F / 2 ^ i : Nat) : Int) 1 = ((F / 2 ^ i % 2 : Nat) : Int) := by
  have h : F / 2 ^ i ≤ F := Nat.div_le_self _ _
  have e := u8_and_nat (F / 2 ^ i) 1 (by omega) (by decide)
  rw [Nat.and_one_is_mod] at e
  exact e

set_option maxHeartbeats 2000000 in
theorem erase_any (W l : Int) (w : World) (h0 : 0 ≤ W) (h1 : W < 18446744073709551616) :
    Calls Tryd.prog 23 #[.int .u64 W, .int .i64 l] w fun e w' => e = .returned (.tuple #[.int .u64 (eraV W.toNat l), .int .i64 (eraE W.toNat l)]) ∧ ∃ q, w' = w.drewN q := by
  have c1 : Box _ := ⟨fun w => check_any W l w h0 h1⟩
  by_cases hk : checkN W.toNat l = 0
  · have hk' := (checkN_zero _ _).1 hk
    obtain ⟨i, rfl⟩ := Int.eq_ofNat_of_zero_le hk'.2.1
    have hi : i < 8 := by omega
    have c2 : Box _ := ⟨fun w => empties_any W w h0 h1⟩
    have c3 : Box _ := ⟨fun w => full_any W w h0 h1⟩
    have c4 : Box _ := ⟨fun w => with_any W i (eraC W.toNat) w h0 h1 hk'.2.1 hk'.2.2 (by omega) (by unfold eraC; split <;> omega)⟩
    simp only [Int.toNat_natCast] at c4
    have hbit := full_bit W.toNat i hi
    have hF := WM.fullN_lt W.toNat
    have eE : eraE W.toNat i = if 127 < WM.lane W.toNat i then 8 else 0 := by unfold eraE; rw [if_neg (by simp [hk])]; rw [Int.toNat_natCast]
    have eV : eraV W.toNat i = if 127 < WM.lane W.toNat i then 0 else WM.withN W.toNat i (eraC W.toNat) := by
      unfold eraV; rw [Int.toNat_natCast]
      by_cases h : 127 < WM.lane W.toNat i
      · rw [if_pos h, if_pos (by simp [h])]
      · rw [if_neg h, if_neg (by simp [hk'.1, h]; omega)]
    rw [eE, eV]
    rw [hk] at c1
    have hC : eraC W.toNat = if WM.matchN W.toNat 128 = 0 then 254 else 128 := rfl
    have ha := and1 _ i hF
    rw [hbit] at ha
    rw [hC] at c4 ⊢
    clear eE eV hC hk hk' h0 h1 hbit
    generalize WM.fullN W.toNat = F at *
    generalize WM.matchN W.toNat 128 = E at *
    by_cases hl : 127 < WM.lane W.toNat i
    · rw [if_pos hl] at ha ⊢
      rw [if_pos hl]
      clear hl c4 hF
      by_cases hE : E = 0
      · subst hE
        rcases lt8_nat i hi with rfl | rfl | rfl | rfl | rfl | rfl | rfl | rfl
        all_goals
          clear hi
          simp only [Int.cast_ofNat_Int, Nat.reducePow, Int.natCast_ediv, Int.ediv_one] at *
          go_enter Tryd.func23, Tryd.ntmps23
          go_wp2_with (first | (go_at_call 36; (with_reducible refine (c1.out _).mono ?_); rintro e w' ⟨rfl, rfl⟩) | (go_at_call 12; (with_reducible refine (c2.out _).mono ?_); rintro e w' ⟨rfl, rfl⟩) | (go_at_call 16; (with_reducible refine (c3.out _).mono ?_); rintro e w' ⟨rfl, rfl⟩))
          go_ret2
          exact ⟨rfl, ⟨0, rfl⟩⟩
      · have hE' : ((E : Int) != 0) = true := by simp; omega
        clear hE
        rcases lt8_nat i hi with rfl | rfl | rfl | rfl | rfl | rfl | rfl | rfl
        all_goals
          clear hi
          simp only [Int.cast_ofNat_Int, Nat.reducePow, Int.natCast_ediv, Int.ediv_one] at *
          go_enter Tryd.func23, Tryd.ntmps23
          go_wp2_with (first | (go_at_call 36; (with_reducible refine (c1.out _).mono ?_); rintro e w' ⟨rfl, rfl⟩) | (go_at_call 12; (with_reducible refine (c2.out _).mono ?_); rintro e w' ⟨rfl, rfl⟩) | (go_at_call 16; (with_reducible refine (c3.out _).mono ?_); rintro e w' ⟨rfl, rfl⟩))
          go_ret2
          exact ⟨rfl, ⟨0, rfl⟩⟩
    · rw [if_neg hl] at ha ⊢
      rw [if_neg hl]
      clear hl hF
      by_cases hE : E = 0
      · subst hE
        rw [if_pos rfl] at c4 ⊢
        rcases lt8_nat i hi with rfl | rfl | rfl | rfl | rfl | rfl | rfl | rfl
        all_goals
          clear hi
          simp only [Int.cast_ofNat_Int, Nat.reducePow, Int.natCast_ediv, Int.ediv_one] at *
          go_enter Tryd.func23, Tryd.ntmps23
          go_wp2_with (first | (go_at_call 36; (with_reducible refine (c1.out _).mono ?_); rintro e w' ⟨rfl, rfl⟩) | (go_at_call 12; (with_reducible refine (c2.out _).mono ?_); rintro e w' ⟨rfl, rfl⟩) | (go_at_call 16; (with_reducible refine (c3.out _).mono ?_); rintro e w' ⟨rfl, rfl⟩) | (go_at_call 37; (with_reducible refine (c4.out _).mono ?_); rintro e w' ⟨rfl, q, rfl⟩))
          go_ret2
          exact ⟨rfl, ⟨_, rfl⟩⟩
      · have hE' : ((E : Int) != 0) = true := by simp; omega
        rw [if_neg hE] at c4 ⊢
        clear hE
        rcases lt8_nat i hi with rfl | rfl | rfl | rfl | rfl | rfl | rfl | rfl
        all_goals
          clear hi
          simp only [Int.cast_ofNat_Int, Nat.reducePow, Int.natCast_ediv, Int.ediv_one] at *
          go_enter Tryd.func23, Tryd.ntmps23
          go_wp2_with (first | (go_at_call 36; (with_reducible refine (c1.out _).mono ?_); rintro e w' ⟨rfl, rfl⟩) | (go_at_call 12; (with_reducible refine (c2.out _).mono ?_); rintro e w' ⟨rfl, rfl⟩) | (go_at_call 16; (with_reducible refine (c3.out _).mono ?_); rintro e w' ⟨rfl, rfl⟩) | (go_at_call 37; (with_reducible refine (c4.out _).mono ?_); rintro e w' ⟨rfl, q, rfl⟩))
          go_ret2
          exact ⟨rfl, ⟨_, rfl⟩⟩
  · rw [eraV_bad _ _ hk, eraE_bad _ _ hk]
    generalize checkN W.toNat l = x at *
    clear h0 h1
    go_enter Tryd.func23, Tryd.ntmps23
    go_wp2_with (first | (go_at_call 36; (with_reducible refine (c1.out _).mono ?_); rintro e w' ⟨rfl, rfl⟩))
    go_ret2
    exact ⟨rfl, ⟨0, rfl⟩⟩
end Go.Proofs.YtjeekfeimogehaaDoor
