import Derived.Lib.ParseIntB
import Derived.Lib.ItoaNum
/- Plain laws of the texts of times: numerals, and what parses. -/
namespace Go.Proofs.Ytnblbneehogadaa

/-- Never. -/
def never : Nat := 18446744073709551615
def neverL : List UInt8 := [110, 101, 118, 101, 114]
def digs (n : Nat) : ByteArray := ⟨(Lib.decDigits n).toArray⟩
theorem dd_ten (n : Nat) (h : 10 ≤ n) : Lib.decDigits n = Lib.decDigits (n / 10) ++ Lib.decDigits (n % 10) := by
  rw [Lib.decDigits, dif_neg (by omega)]
  congr 1
  rw [Lib.decDigits, dif_pos (by omega)]
theorem digs_ten (n : Nat) (h : 10 ≤ n) : digs n = digs (n / 10) ++ digs (n % 10) := by
  unfold digs
  rw [dd_ten n h]
  apply ByteArray.ext
  simp [ByteArray.data_append]
theorem digs_one (n : Nat) (h : n < 10) : digs n = ⟨#[UInt8.ofNat (48 + n)]⟩ := by
  unfold digs; rw [Lib.decDigits, dif_pos h]
theorem dd_len (k : Nat) : ∀ n, n < 10 ^ (k + 1) → (Lib.decDigits n).length ≤ k + 1 := by
  induction k with
  | zero => intro n h; rw [Lib.decDigits, dif_pos (by simpa using h)]; simp
  | succ k ih =>
    intro n h
    by_cases h10 : n < 10
    · rw [Lib.decDigits, dif_pos h10]; simp
    · rw [Lib.decDigits, dif_neg h10, List.length_append]
      have := ih (n / 10) (by rw [Nat.pow_succ] at h; omega)
      simp; omega
theorem dd_len20 (n : Nat) (h : n < 18446744073709551616) : (Lib.decDigits n).length ≤ 20 := dd_len 19 n (by omega)
theorem digs_size (n : Nat) (h : n < 18446744073709551616) : (digs n).size ≤ 20 := dd_len20 n h
theorem dd_pos (n : Nat) : 1 ≤ (Lib.decDigits n).length := by
  rw [Lib.decDigits]; split <;> simp
theorem dd_ne_nil (n : Nat) : Lib.decDigits n ≠ [] := fun h => by have := dd_pos n; rw [h] at this; simp at this
theorem dd_digit (n : Nat) : ∀ c ∈ Lib.decDigits n, 48 ≤ c.toNat ∧ c.toNat ≤ 57 := by
  induction n using Nat.strongRecOn with
  | _ n ih =>
    rw [Lib.decDigits]
    split
    · rename_i h
      intro c hc
      rw [List.mem_singleton] at hc; subst hc
      rw [UInt8.toNat_ofNat']; omega
    · rename_i h
      intro c hc
      rw [List.mem_append] at hc
      rcases hc with hc | hc
      · exact ih (n / 10) (by omega) c hc
      · rw [List.mem_singleton] at hc; subst hc
        rw [UInt8.toNat_ofNat']; omega

/-- What a string that spells no number parses to. -/
def noNum : Lib.NumEnd Nat := Lib.parseUintB 64 []
theorem um_bad (M acc : Nat) (c : UInt8) (r : List UInt8) (h : c.toNat < 48 ∨ 57 < c.toNat) : Lib.parseUintM M acc (c :: r) = noNum := by
  rw [Lib.parseUintM, if_neg (by omega)]; rfl
theorem um_range (acc : Nat) (c : UInt8) (r : List UInt8) (h : 48 ≤ c.toNat ∧ c.toNat ≤ 57) (hr : (never - (c.toNat - 48)) / 10 < acc) : Lib.parseUintM never acc (c :: r) = .range := by
  unfold never at *
  rw [Lib.parseUintM, if_pos h]
  split
  · rfl
  · rw [if_pos (by omega)]
theorem um_ok (acc : Nat) (c : UInt8) (r : List UInt8) (h : 48 ≤ c.toNat ∧ c.toNat ≤ 57) (hr : acc ≤ (never - (c.toNat - 48)) / 10) : Lib.parseUintM never acc (c :: r) = Lib.parseUintM never (10 * acc + (c.toNat - 48)) r := by
  unfold never at *
  rw [Lib.parseUintM, if_pos h, if_neg (by omega), if_neg (by omega), Nat.mul_comm]
theorem um_append (M : Nat) (l r : List UInt8) : ∀ acc n, Lib.parseUintM M acc l = .ok n → Lib.parseUintM M acc (l ++ r) = Lib.parseUintM M n r := by
  induction l with
  | nil => intro acc n h; simp [Lib.parseUintM] at h; rw [h]; rfl
  | cons c l ih =>
    intro acc n h
    rw [List.cons_append]
    rw [Lib.parseUintM] at h ⊢
    split at h
    · rename_i h1
      rw [if_pos h1]
      split at h
      · cases h
      · rename_i h2
        rw [if_neg h2]
        split at h
        · cases h
        · rename_i h3
          rw [if_neg h3]
          exact ih _ _ h
    · cases h
theorem um_le (l : List UInt8) : ∀ acc n, acc ≤ never → Lib.parseUintM never acc l = .ok n → n ≤ never := by
  induction l with
  | nil => intro acc n h0 h; simp [Lib.parseUintM] at h; omega
  | cons c l ih =>
    intro acc n h0 h
    rw [Lib.parseUintM] at h
    split at h
    · split at h
      · cases h
      · split at h
        · cases h
        · exact ih _ _ (by omega) h
    · cases h
theorem um_digs (n : Nat) (h : n ≤ never) : Lib.parseUintM never 0 (Lib.decDigits n) = .ok n := by
  induction n using Nat.strongRecOn with
  | _ n ih =>
    have one : ∀ acc d, d < 10 → 10 * acc + d ≤ never → Lib.parseUintM never acc (Lib.decDigits d) = .ok (10 * acc + d) := by
      intro acc d hd hn
      have ht : (UInt8.ofNat (48 + d)).toNat = 48 + d := by rw [UInt8.toNat_ofNat']; omega
      rw [Lib.decDigits, dif_pos hd, um_ok acc _ _ (by rw [ht]; omega) (by rw [ht]; unfold never at *; omega), ht]
      simp [Lib.parseUintM]
    by_cases h10 : n < 10
    · have := one 0 n h10 (by omega); simpa using this
    · rw [dd_ten n (by omega), um_append _ _ _ _ _ (ih (n / 10) (by omega) (by omega)), one _ _ (by omega) (by omega)]
      congr 1; omega

def txtL (n : Nat) : List UInt8 := if n = never then neverL else Lib.decDigits n
def txt (n : Nat) : ByteArray := ⟨(txtL n).toArray⟩
theorem txt_never : txt never = ⟨#[110, 101, 118, 101, 114]⟩ := rfl
theorem txt_digs (n : Nat) (h : n ≠ never) : txt n = digs n := by unfold txt txtL digs; rw [if_neg h]
theorem txt_size (n : Nat) (h : n < 18446744073709551616) : (txt n).size ≤ 20 := by
  by_cases e : n = never
  · subst e; decide
  · rw [txt_digs n e]; exact digs_size n h
/-- What Parse gives. -/
def parseT (l : List UInt8) : Option Nat :=
  if l = neverL then some never else
  match Lib.parseUintB 64 l with
  | .ok n => if txtL n = l then some n else none
  | _ => none
theorem uintB_eq (l : List UInt8) : Lib.parseUintB 64 l = if l = [] then noNum else Lib.parseUintM never 0 l := rfl
theorem parseT_never : parseT neverL = some never := rfl
theorem parseT_bad (l : List UInt8) (h : l ≠ neverL) (h1 : Lib.parseUintB 64 l = noNum) : parseT l = none := by unfold parseT; rw [if_neg h, h1]; rfl
theorem parseT_range (l : List UInt8) (h : l ≠ neverL) (h1 : Lib.parseUintB 64 l = .range) : parseT l = none := by unfold parseT; rw [if_neg h, h1]
theorem parseT_ok (l : List UInt8) (n : Nat) (h : l ≠ neverL) (h1 : Lib.parseUintB 64 l = .ok n) (h2 : txtL n = l) : parseT l = some n := by unfold parseT; rw [if_neg h, h1]; simp [h2]
theorem parseT_no (l : List UInt8) (n : Nat) (h : l ≠ neverL) (h1 : Lib.parseUintB 64 l = .ok n) (h2 : txtL n ≠ l) : parseT l = none := by unfold parseT; rw [if_neg h, h1]; simp [h2]
theorem uintB_le (l : List UInt8) (n : Nat) (h : Lib.parseUintB 64 l = .ok n) : n ≤ never := by
  rw [uintB_eq] at h
  split at h
  · cases h
  · exact um_le _ _ _ (by unfold never; omega) h
theorem parseT_le (l : List UInt8) (n : Nat) (h : parseT l = some n) : n ≤ never := by
  unfold parseT at h
  split at h
  · simp at h; omega
  · split at h
    · rename_i m hm
      split at h
      · simp at h; subst h; exact uintB_le _ _ hm
      · cases h
    · cases h
theorem parseT_txt (n : Nat) (h : n ≤ never) : parseT (txtL n) = some n := by
  by_cases e : n = never
  · subst e; rfl
  · have e2 : txtL n = Lib.decDigits n := by unfold txtL; rw [if_neg e]
    refine parseT_ok _ _ ?_ ?_ rfl
    · rw [e2]; intro hh
      have := dd_digit n 110 (by rw [hh]; decide)
      simp at this
    · rw [e2, uintB_eq, if_neg (dd_ne_nil n), um_digs n h]
/-- A text that parses is that of its time. -/
theorem parseT_eq (l : List UInt8) (n : Nat) (h : parseT l = some n) : l = txtL n := by
  unfold parseT at h
  split at h
  · rename_i e; simp at h; rw [← h, e]; rfl
  · split at h
    · split at h
      · rename_i e; simp at h; rw [← h]; exact e.symm
      · cases h
    · cases h
theorem parseT_long (l : List UInt8) (h : 20 < l.length) : parseT l = none := by
  cases e : parseT l with
  | none => rfl
  | some n =>
    have h1 := parseT_eq l n e
    have h2 := parseT_le l n e
    have h3 := txt_size n (by unfold never at h2; omega)
    have h4 : (txt n).size = (txtL n).length := rfl
    rw [h4, ← h1] at h3
    omega
theorem parseT_nil : parseT [] = none := rfl
end Go.Proofs.Ytnblbneehogadaa
