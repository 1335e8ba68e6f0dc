import Derived.Test.YthlnhemdhlkhfaaDoorD12
/- The plain laws of the texts of workloads. -/
namespace Go.Proofs.YthlnhemdhlkhfaaDoor
open Go.RowKit

def kW : List UInt8 := [107, 101, 121, 115, 61]
def rW : List UInt8 := [114, 101, 113, 117, 101, 115, 116, 115, 61]
def pW : List UInt8 := [112, 97, 114, 116, 61]
def sW : List UInt8 := [115, 101, 101, 100, 61]
def dd (n : Nat) : List UInt8 := Lib.decDigits n
def textL (k a r p s : Nat) : List UInt8 := wordL k ++ 32 :: ((kW ++ dd a) ++ 32 :: ((rW ++ dd r) ++ 32 :: ((pW ++ dd p) ++ 32 :: (sW ++ dd s))))
theorem text_list (k a r p s : Nat) : (textB k a r p s).data.toList = textL k a r p s := by
  simp [textB, textL, wordB, digs, dd, kW, rW, pW, sW, ByteArray.data_append]
theorem dd_no32 (n : Nat) : ∀ c ∈ dd n, c ≠ 32 := fun c hc e => by
  have := (dd_digit n c hc).1
  rw [e] at this
  exact absurd this (by decide)
theorem dd_no61 (n : Nat) : ∀ c ∈ dd n, c ≠ 61 := fun c hc e => by
  have := (dd_digit n c hc).2
  rw [e] at this
  exact absurd this (by decide)
theorem word_no (k : Nat) : ∀ c ∈ wordL k, c ≠ 32 := by
  unfold wordL
  split <;> decide
theorem app_no {x : UInt8} {p q : List UInt8} (hp : ∀ c ∈ p, c ≠ x) (hq : ∀ c ∈ q, c ≠ x) : ∀ c ∈ p ++ q, c ≠ x := fun c hc => by
  rcases List.mem_append.1 hc with h | h
  · exact hp c h
  · exact hq c h
theorem kW_no (n : Nat) : ∀ c ∈ kW ++ dd n, c ≠ 32 := app_no (by decide) (dd_no32 n)
theorem rW_no (n : Nat) : ∀ c ∈ rW ++ dd n, c ≠ 32 := app_no (by decide) (dd_no32 n)
theorem pW_no (n : Nat) : ∀ c ∈ pW ++ dd n, c ≠ 32 := app_no (by decide) (dd_no32 n)
theorem sW_no (n : Nat) : ∀ c ∈ sW ++ dd n, c ≠ 32 := app_no (by decide) (dd_no32 n)
theorem dd_inj {a b : Nat} (ha : a ≤ never) (hb : b ≤ never) (h : dd a = dd b) : a = b := by
  have h1 := um_digs a ha
  have h2 := um_digs b hb
  unfold dd at h
  rw [h, h2] at h1
  injection h1 with h1
  exact h1.symm
theorem word_inj {k j : Nat} (hk : 1 ≤ k) (hk2 : k ≤ 6) (hj : 1 ≤ j) (hj2 : j ≤ 6) (h : wordL k = wordL j) : k = j := by
  obtain rfl | rfl | rfl | rfl | rfl | rfl : k = 1 ∨ k = 2 ∨ k = 3 ∨ k = 4 ∨ k = 5 ∨ k = 6 := by omega
  all_goals
    obtain rfl | rfl | rfl | rfl | rfl | rfl : j = 1 ∨ j = 2 ∨ j = 3 ∨ j = 4 ∨ j = 5 ∨ j = 6 := by omega
    all_goals first | rfl | (exact absurd h (by decide))
/-- The five words of a text. -/
theorem words_of (k a r p s : Nat) : cA 32 (textL k a r p s) = wordL k ∧ cA 32 (cZ 32 (textL k a r p s)) = kW ++ dd a ∧ cA 32 (cZ 32 (cZ 32 (textL k a r p s))) = rW ++ dd r ∧
    cA 32 (cZ 32 (cZ 32 (cZ 32 (textL k a r p s)))) = pW ++ dd p ∧ cA 32 (cZ 32 (cZ 32 (cZ 32 (cZ 32 (textL k a r p s))))) = sW ++ dd s := by
  unfold textL
  rw [cZ_at 32 _ _ (word_no k), cZ_at 32 _ _ (kW_no a), cZ_at 32 _ _ (rW_no r), cZ_at 32 _ _ (pW_no p)]
  exact ⟨cA_at 32 _ _ (word_no k), cA_at 32 _ _ (kW_no a), cA_at 32 _ _ (rW_no r), cA_at 32 _ _ (pW_no p), cA_all 32 _ (sW_no s)⟩
theorem text_inj {k a r p s k' a' r' p' s' : Nat} (V : Vld k a r p s) (V' : Vld k' a' r' p' s') (h : textL k a r p s = textL k' a' r' p' s') : k = k' ∧ a = a' ∧ r = r' ∧ p = p' ∧ s = s' := by
  obtain ⟨w0, w1, w2, w3, w4⟩ := words_of k a r p s
  obtain ⟨v0, v1, v2, v3, v4⟩ := words_of k' a' r' p' s'
  rw [h] at w0 w1 w2 w3 w4
  have hk : 1 ≤ k ∧ k ≤ 6 ∧ p ≤ 4096 := by rcases V.k6 with h | h | h | h | h | h <;> omega
  have hk' : 1 ≤ k' ∧ k' ≤ 6 ∧ p' ≤ 4096 := by rcases V'.k6 with h | h | h | h | h | h <;> omega
  have n1 := V.a2; have n2 := V.r2; have n3 := V.s64
  have m1 := V'.a2; have m2 := V'.r2; have m3 := V'.s64
  exact ⟨word_inj hk.1 hk.2.1 hk'.1 hk'.2.1 (w0.symm.trans v0),
    dd_inj (by unfold never; omega) (by unfold never; omega) (List.append_cancel_left (w1.symm.trans v1)),
    dd_inj (by unfold never; omega) (by unfold never; omega) (List.append_cancel_left (w2.symm.trans v2)),
    dd_inj (by unfold never; omega) (by unfold never; omega) (List.append_cancel_left (w3.symm.trans v3)),
    dd_inj (by unfold never; omega) (by unfold never; omega) (List.append_cancel_left (w4.symm.trans v4))⟩

/-- The place of a word among the names. -/
def idxL (w : List UInt8) : Int :=
  if w = [] then 0 else if w = wordL 1 then 1 else if w = wordL 2 then 2 else if w = wordL 3 then 3 else if w = wordL 4 then 4 else if w = wordL 5 then 5 else if w = wordL 6 then 6 else -1
/-- What the program's loop holds: kind, keys, requests, part, seed. -/
structure LS where
  k : Int
  a : Nat
  r : Nat
  p : Nat
  s : Nat
def LS.zero : LS := ⟨0, 0, 0, 0, 0⟩
/-- One word: its number is i. -/
def stepL (i : Nat) (w : List UInt8) (c : LS) : Option LS :=
  if i = 0 then some { c with k := idxL w }
  else match Lib.parseUintB 64 (cZ 61 w) with
    | .ok n => if i < 4 ∧ 4096 < n then none else some (if i = 1 then { c with a := n } else if i = 2 then { c with r := n } else if i = 3 then { c with p := n } else { c with s := n })
    | _ => none
theorem step_num (i n : Nat) (q : List UInt8) (hi : i ≠ 0) (c : LS) (hq : ∀ x ∈ q, x ≠ 61) (hn : n ≤ never) (h4 : i < 4 → n ≤ 4096) :
    stepL i (q ++ 61 :: dd n) c = some (if i = 1 then { c with a := n } else if i = 2 then { c with r := n } else if i = 3 then { c with p := n } else { c with s := n }) := by
  have hp : Lib.parseUintB 64 (dd n) = .ok n := by
    rw [uintB_eq, if_neg (by exact dd_ne_nil n)]; exact um_digs n hn
  unfold stepL
  rw [if_neg hi, cZ_at 61 _ _ hq, hp]
  show (if i < 4 ∧ 4096 < n then none else _) = _
  rw [if_neg (by omega)]
/-- All words of l, the first of which has number i; m more at most. -/
def runL : Nat → List UInt8 → Nat → LS → Option LS
  | 0, _, _, _ => none
  | m + 1, l, i, c => match stepL i (cA 32 l) c with
    | none => none
    | some c' => if cF 32 l then runL m (cZ 32 l) (i + 1) c' else some c'
theorem idx_word {k : Nat} (h1 : 1 ≤ k) (h6 : k ≤ 6) : idxL (wordL k) = k := by
  obtain rfl | rfl | rfl | rfl | rfl | rfl : k = 1 ∨ k = 2 ∨ k = 3 ∨ k = 4 ∨ k = 5 ∨ k = 6 := by omega
  all_goals decide
theorem run_text {k a r p s : Nat} (V : Vld k a r p s) (m : Nat) : runL (m + 5) (textL k a r p s) 0 LS.zero = some ⟨k, a, r, p, s⟩ := by
  have hk : 1 ≤ k ∧ k ≤ 6 ∧ p ≤ 4096 := by rcases V.k6 with h | h | h | h | h | h <;> omega
  have n1 := V.a2; have n2 := V.r2; have n3 := V.s64
  have t1 : stepL 1 ([107, 101, 121, 115] ++ 61 :: dd a) ⟨k, 0, 0, 0, 0⟩ = some ⟨k, a, 0, 0, 0⟩ := step_num 1 a [107, 101, 121, 115] (by decide) ⟨k, 0, 0, 0, 0⟩ (by decide) (by unfold never; omega) (by omega)
  have t2 : stepL (1 + 1) ([114, 101, 113, 117, 101, 115, 116, 115] ++ 61 :: dd r) ⟨k, a, 0, 0, 0⟩ = some ⟨k, a, r, 0, 0⟩ := step_num 2 r [114, 101, 113, 117, 101, 115, 116, 115] (by decide) ⟨k, a, 0, 0, 0⟩ (by decide) (by unfold never; omega) (by omega)
  have t3 : stepL (1 + 1 + 1) ([112, 97, 114, 116] ++ 61 :: dd p) ⟨k, a, r, 0, 0⟩ = some ⟨k, a, r, p, 0⟩ := step_num 3 p [112, 97, 114, 116] (by decide) ⟨k, a, r, 0, 0⟩ (by decide) (by unfold never; omega) (by omega)
  have t4 : stepL (1 + 1 + 1 + 1) ([115, 101, 101, 100] ++ 61 :: dd s) ⟨k, a, r, p, 0⟩ = some ⟨k, a, r, p, s⟩ := step_num 4 s [115, 101, 101, 100] (by decide) ⟨k, a, r, p, 0⟩ (by decide) (by unfold never; omega) (by omega)
  have t0 : stepL 0 (wordL k) LS.zero = some ⟨k, 0, 0, 0, 0⟩ := by
    unfold stepL; rw [if_pos rfl, idx_word hk.1 hk.2.1]; rfl
  unfold textL
  simp only [runL, Nat.zero_add]
  rw [cA_at 32 _ _ (word_no k), cZ_at 32 _ _ (word_no k), cF_at, t0]
  simp only [if_true]
  rw [cA_at 32 _ _ (kW_no a), cZ_at 32 _ _ (kW_no a), cF_at, show kW ++ dd a = [107, 101, 121, 115] ++ 61 :: dd a from rfl, t1]
  simp only [if_true]
  rw [cA_at 32 _ _ (rW_no r), cZ_at 32 _ _ (rW_no r), cF_at, show rW ++ dd r = [114, 101, 113, 117, 101, 115, 116, 115] ++ 61 :: dd r from rfl, t2]
  simp only [if_true]
  rw [cA_at 32 _ _ (pW_no p), cZ_at 32 _ _ (pW_no p), cF_at, show pW ++ dd p = [112, 97, 114, 116] ++ 61 :: dd p from rfl, t3]
  simp only [if_true]
  rw [cA_all 32 _ (sW_no s), cF_all 32 _ (sW_no s), show sW ++ dd s = [115, 101, 101, 100] ++ 61 :: dd s from rfl, t4]
  simp
end Go.Proofs.YthlnhemdhlkhfaaDoor
