import Derived.Test.YtbnmnkmjokcmfaaDoorS24
/- strings.LastIndexAny(s, "+-") at every string. -/
namespace Go.Proofs.YtbnmnkmjokcmfaaDoor
open Go.RowKit
theorem decN (n b0 b1 b2 b3 : Nat) : (b0 < 128 ∧ Lib.decodeN n b0 b1 b2 b3 = (b0, 1)) ∨ (128 ≤ b0 ∧ 128 ≤ (Lib.decodeN n b0 b1 b2 b3).1 ∧ (Lib.decodeN n b0 b1 b2 b3).1 ≤ 1114111 ∧ ((Lib.decodeN n b0 b1 b2 b3).2 = 1 ∨ ((Lib.decodeN n b0 b1 b2 b3).2 = 2 ∧ 128 ≤ b1) ∨ ((Lib.decodeN n b0 b1 b2 b3).2 = 3 ∧ 128 ≤ b1 ∧ 128 ≤ b2) ∨ ((Lib.decodeN n b0 b1 b2 b3).2 = 4 ∧ 128 ≤ b1 ∧ 128 ≤ b2 ∧ 128 ≤ b3))) := by
  by_cases h : b0 < 128
  · left; exact ⟨h, by unfold Lib.decodeN; rw [if_pos h]⟩
  · right
    refine ⟨by omega, ?_⟩
    unfold Lib.decodeN
    rw [if_neg h]
    repeat' split
    all_goals first
      | exact ⟨by decide, by decide, Or.inl rfl⟩
      | exact ⟨by show 128 ≤ _; omega, by show _ ≤ 1114111; omega, Or.inr (Or.inl ⟨rfl, by omega⟩)⟩
      | exact ⟨by show 128 ≤ _; omega, by show _ ≤ 1114111; omega, Or.inr (Or.inr (Or.inl ⟨rfl, by omega, by omega⟩))⟩
      | exact ⟨by show 128 ≤ _; omega, by show _ ≤ 1114111; omega, Or.inr (Or.inr (Or.inr ⟨rfl, by omega, by omega, by omega⟩))⟩
theorem back_cases (l : List UInt8) (i : Nat) (hi : 0 < i) (hil : i ≤ l.length) : ((l.getD (i - 1) 0).toNat < 128 ∧ Lib.decodeLastL (l.take i) = ((l.getD (i - 1) 0).toNat, 1)) ∨
    (∃ r k, Lib.decodeLastL (l.take i) = (r, k) ∧ 128 ≤ r ∧ r ≤ 1114111 ∧ 1 ≤ k ∧ k ≤ i ∧ ∀ j, i - k ≤ j → j < i → 128 ≤ (l.getD j 0).toNat) := by
  rcases Lib.last_cases l i hi hil with h | ⟨h1, h2⟩ | ⟨h1, st, hst, h2, h3⟩
  · exact Or.inl h
  · exact Or.inr ⟨65533, 1, h2, by omega, by omega, by omega, by omega, fun j hj hl => by
      obtain rfl : j = i - 1 := by omega
      exact h1⟩
  · right
    have hd : ∀ j, st + j < i → ((l.take i).drop st).getD j 0 = l.getD (st + j) 0 := fun j hj => by
      rw [List.getD_eq_getElem?_getD, List.getElem?_drop, List.getElem?_take, if_pos (by omega), ← List.getD_eq_getElem?_getD]
    rw [Lib.decodeL_N] at h2 h3
    have key := decN ((l.take i).drop st).length (((l.take i).drop st).getD 0 0).toNat (((l.take i).drop st).getD 1 0).toNat (((l.take i).drop st).getD 2 0).toNat (((l.take i).drop st).getD 3 0).toNat
    generalize hN : Lib.decodeN ((l.take i).drop st).length (((l.take i).drop st).getD 0 0).toNat (((l.take i).drop st).getD 1 0).toNat (((l.take i).drop st).getD 2 0).toNat (((l.take i).drop st).getD 3 0).toNat = rk at *
    obtain ⟨r, k⟩ := rk
    rw [hd 0 (by omega), Nat.add_zero] at key
    simp only at h3 key
    rcases key with ⟨g1, g2⟩ | ⟨g0, g1, g2, g3⟩
    · exfalso
      cases g2
      rw [show i - 1 = st by omega] at h1
      omega
    · refine ⟨r, k, h2, g1, g2, by omega, by omega, fun j hj hl => ?_⟩
      rcases g3 with e | ⟨e, a1⟩ | ⟨e, a1, a2⟩ | ⟨e, a1, a2, a3⟩
      · obtain rfl : j = st := by omega
        exact g0
      · rw [hd 1 (by omega)] at a1
        obtain rfl | rfl : j = st ∨ j = st + 1 := by omega
        · exact g0
        · exact a1
      · rw [hd 1 (by omega)] at a1
        rw [hd 2 (by omega)] at a2
        obtain rfl | rfl | rfl : j = st ∨ j = st + 1 ∨ j = st + 2 := by omega
        · exact g0
        · exact a1
        · exact a2
      · rw [hd 1 (by omega)] at a1
        rw [hd 2 (by omega)] at a2
        rw [hd 3 (by omega)] at a3
        obtain rfl | rfl | rfl | rfl : j = st ∨ j = st + 1 ∨ j = st + 2 ∨ j = st + 3 := by omega
        · exact g0
        · exact a1
        · exact a2
        · exact a3
end Go.Proofs.YtbnmnkmjokcmfaaDoor
