import Derived.Test.YtbnmnkmjokcmfaaDoorS30
import Derived.Test.YtbnmnkmjokcmfaaDoorSO
/- The walk of SeasonTexts. -/
namespace Go.Proofs.YtbnmnkmjokcmfaaDoor
open Go.RowKit
/-- a state of the scan whose numbers are small -/
def ScOk (x : Sc) : Prop := (-2000000000 ≤ x.re ∧ x.re ≤ 2000000000) ∧ (-2000000000 ≤ x.im ∧ x.im ≤ 2000000000) ∧ x.n ≤ 1000000009 ∧ (x.sg = 1 ∨ x.sg = -1)
theorem sc1_ok {i : Nat} {c : UInt8} {x : Sc} (h : ScOk x) : ScOk (sc1 i c x) := by
  obtain ⟨h1, h2, h3, h4⟩ := h
  have hc := c.toNat_lt
  unfold sc1
  split
  · exact ⟨h1, h2, by show 10 * x.n + (c.toNat - 48) ≤ _; omega, h4⟩
  · split
    · exact ⟨h1, by show -2000000000 ≤ x.sg * x.n ∧ x.sg * x.n ≤ 2000000000; rcases h4 with h | h <;> rw [h] <;> omega, h3, h4⟩
    · split
      · refine ⟨?_, h2, by show 0 ≤ _; omega, ?_⟩
        · show -2000000000 ≤ (if 0 < i then x.sg * x.n else x.re) ∧ (if 0 < i then x.sg * x.n else x.re) ≤ 2000000000
          split
          · rcases h4 with h | h <;> rw [h] <;> omega
          · exact h1
        · show (if c = 45 then (-1 : Int) else 1) = 1 ∨ _
          split
          · exact Or.inr rfl
          · exact Or.inl rfl
      · exact ⟨h1, h2, h3, h4⟩
theorem scan_take (l : List UInt8) (k : Nat) (hk : k < l.length) (x : Sc) : scan 0 (l.take (k + 1)) x = sc1 k (l.getD k 0) (scan 0 (l.take k) x) := by
  have e : l.take (k + 1) = l.take k ++ [l.getD k 0] := by
    rw [List.getD_eq_getElem?_getD, List.getElem?_eq_getElem hk, List.take_succ_eq_append_getElem hk]
    rfl
  rw [e, scan_append]
  show sc1 (0 + (l.take k).length) _ _ = _
  rw [List.length_take, Nat.min_eq_left (by omega), Nat.zero_add]
/-- which of the scan's ways a byte takes -/
theorem sc_ways (i : Nat) (c : UInt8) (x : Sc) :
    ((decide (48 ≤ (c.toNat : Int)) = true ∧ decide ((c.toNat : Int) ≤ 57) = true ∧ decide ((x.n : Int) < 100000000) = true ∧ 48 ≤ c.toNat ∧ c.toNat ≤ 57) ∧ sc1 i c x = ⟨x.re, x.im, 10 * x.n + (c.toNat - 48), x.sg, x.at_⟩) ∨
    (¬ (48 ≤ c.toNat ∧ c.toNat ≤ 57 ∧ x.n < 100000000) ∧ c = 105 ∧ sc1 i c x = ⟨x.re, x.sg * x.n, x.n, x.sg, x.at_⟩) ∨
    (¬ (48 ≤ c.toNat ∧ c.toNat ≤ 57 ∧ x.n < 100000000) ∧ c = 43 ∧ sc1 i c x = ⟨if 0 < i then x.sg * x.n else x.re, x.im, 0, 1, if 0 < i then i else x.at_⟩) ∨
    (¬ (48 ≤ c.toNat ∧ c.toNat ≤ 57 ∧ x.n < 100000000) ∧ c = 45 ∧ sc1 i c x = ⟨if 0 < i then x.sg * x.n else x.re, x.im, 0, -1, if 0 < i then i else x.at_⟩) ∨
    (¬ (48 ≤ c.toNat ∧ c.toNat ≤ 57 ∧ x.n < 100000000) ∧ c ≠ 105 ∧ c ≠ 43 ∧ c ≠ 45 ∧ sc1 i c x = x) := by
  unfold sc1
  by_cases h : 48 ≤ c.toNat ∧ c.toNat ≤ 57 ∧ x.n < 100000000
  · exact Or.inl ⟨⟨decide_eq_true (by omega), decide_eq_true (by omega), decide_eq_true (by omega), h.1, h.2.1⟩, by rw [if_pos h]⟩
  · right
    rw [if_neg h]
    by_cases h1 : c = 105
    · exact Or.inl ⟨h, h1, by rw [if_pos h1]⟩
    · right
      rw [if_neg h1]
      by_cases h2 : c = 43
      · exact Or.inl ⟨h, h2, by subst h2; rw [if_pos (Or.inl rfl)]; rfl⟩
      · right
        by_cases h3 : c = 45
        · exact Or.inl ⟨h, h3, by subst h3; rw [if_pos (Or.inr rfl)]; rfl⟩
        · exact Or.inr ⟨h, h1, h2, h3, by rw [if_neg (fun h => h.elim h2 h3)]⟩
end Go.Proofs.YtbnmnkmjokcmfaaDoor
