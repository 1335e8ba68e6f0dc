import Derived.Test.YthlnhemdhlkhfaaDoorD22
/- The plain law of the numbers that the reference reads. -/
namespace Go.Proofs.YthlnhemdhlkhfaaDoor
open Go.RowKit

theorem numG_app : ∀ (l r : List UInt8) (acc m : Nat), numG l acc = some (m, []) → numG (l ++ r) acc = numG r m
  | [], r, acc, m, h => by
    simp only [numG, Option.some.injEq, Prod.mk.injEq] at h
    rw [List.nil_append, h.1]
  | c :: l, r, acc, m, h => by
    rw [List.cons_append]
    simp only [numG] at h ⊢
    split at h
    · rename_i hc
      rw [if_pos hc]
      split at h
      · cases h
      · rename_i hb
        rw [if_neg hb]
        exact numG_app l r _ m h
    · simp at h
theorem numG_dd (n : Nat) (h : n ≤ never) : numG (dd n) 0 = some (n, []) := by
  induction n using Nat.strongRecOn with
  | _ n ih =>
    have one : ∀ acc d, d < 10 → 10 * acc + d ≤ never → numG (dd d) acc = some (10 * acc + d, []) := by
      intro acc d hd hn
      have ht : (UInt8.ofNat (48 + d)).toNat = 48 + d := by rw [UInt8.toNat_ofNat']; omega
      unfold dd
      rw [Lib.decDigits, dif_pos hd]
      simp only [numG]
      rw [ht, if_pos (by omega), if_neg (by unfold never at hn; omega)]
      congr 3; omega
    by_cases h10 : n < 10
    · have := one 0 n h10 (by omega); simpa using this
    · have e : dd n = dd (n / 10) ++ dd (n % 10) := dd_ten n (by omega)
      rw [e, numG_app _ _ _ _ (ih (n / 10) (by omega) (by omega)), one _ _ (by omega) (by omega)]
      congr 2; omega
theorem numG_stop (n : Nat) (h : n ≤ never) (c : UInt8) (t : List UInt8) (hc : ¬ (48 ≤ c.toNat ∧ c.toNat ≤ 57)) : numG (dd n ++ c :: t) 0 = some (n, c :: t) := by
  rw [numG_app _ _ _ _ (numG_dd n h)]
  simp only [numG]
  rw [if_neg hc]
theorem extract_pre (a b : ByteArray) : (a ++ b).extract 0 a.size = a ∧ (a ++ b).extract a.size (a ++ b).size = b := by
  constructor
  · rw [cextract_upto]
    apply ByteArray.ext
    apply Array.ext'
    simp [ByteArray.data_append]
  · rw [cextract_from]
    apply ByteArray.ext
    apply Array.ext'
    simp [ByteArray.data_append]
theorem aft_yes (wd t : ByteArray) : aftV (wd ++ t) wd = numV t := by
  obtain ⟨h1, h2⟩ := extract_pre wd t
  unfold aftV
  rw [h1, h2, if_neg]
  rintro (h | h)
  · rw [ByteArray.size_append] at h; omega
  · exact h rfl
end Go.Proofs.YthlnhemdhlkhfaaDoor
