import Derived.Test.YtbnmnkmjokcmfaaDoorLD50
/- Plain laws of the season's texts: a text that was written is read again; what the law's scan makes of it. -/
namespace Go.Proofs.YtbnmnkmjokcmfaaDoor
open Go.RowKit
theorem dd_cons (n : Nat) : ∃ c r, Lib.decDigits n = c :: r ∧ 48 ≤ c.toNat ∧ c.toNat ≤ 57 := by
  have h := dd_digit n
  cases hd : Lib.decDigits n with
  | nil => exact absurd hd (dd_ne_nil n)
  | cons c r => exact ⟨c, r, rfl, h c (by rw [hd]; simp)⟩
theorem pu_append (l r : List UInt8) : ∀ acc n, Lib.parseUint10 acc l = .ok n → Lib.parseUint10 acc (l ++ r) = Lib.parseUint10 n r := by
  induction l with
  | nil =>
    intro acc n h
    simp only [Lib.parseUint10] at h
    cases h
    rfl
  | cons c t ih =>
    intro acc n h
    show Lib.parseUint10 acc (c :: (t ++ r)) = _
    simp only [Lib.parseUint10] at h ⊢
    split at h
    · rename_i h1
      rw [if_pos h1]
      split at h
      · cases h
      · rename_i h2
        rw [if_neg h2]
        split at h
        · cases h
        · rename_i h3
          rw [if_neg h3]
          exact ih _ _ h
    · cases h
theorem pu_dd (n : Nat) : n ≤ 1000000000000 → Lib.parseUint10 0 (Lib.decDigits n) = .ok n := by
  induction n using Nat.strongRecOn with
  | _ n ih =>
    intro hn
    rw [Lib.decDigits]
    split
    · rename_i h
      simp only [Lib.parseUint10]
      rw [UInt8.toNat_ofNat', if_pos (by omega), if_neg (by omega), if_neg (by omega)]
      congr 1; omega
    · rename_i h
      rw [pu_append _ _ 0 (n / 10) (ih (n / 10) (by omega) (by omega))]
      simp only [Lib.parseUint10]
      rw [UInt8.toNat_ofNat', if_pos (by omega), if_neg (by omega), if_neg (by omega)]
      congr 1; omega
theorem pm_dd (n : Nat) (hn : n ≤ 1000000000000) : Lib.parseMag (Lib.decDigits n) = .ok n := by
  unfold Lib.parseMag
  rw [if_neg (dd_ne_nil n), pu_dd n hn]
theorem atoi_dd (n : Nat) (hn : n ≤ 1000000000000) : Lib.atoiAll (Lib.decDigits n) = .ok (n : Int) := by
  obtain ⟨c, r, hd, h1, h2⟩ := dd_cons n
  have hp := pm_dd n hn
  rw [hd] at hp ⊢
  unfold Lib.atoiAll
  simp only
  rw [if_neg (by omega), hp]
  simp only
  rw [if_neg (by omega), if_neg (by omega), if_neg (by omega)]
theorem atoi_minus (n : Nat) (hn : n ≤ 1000000000000) : Lib.atoiAll (45 :: Lib.decDigits n) = .ok (-(n : Int)) := by
  unfold Lib.atoiAll
  simp only
  rw [if_pos (by decide), pm_dd n hn]
  simp only
  rw [if_neg (fun h => h.1 (by decide)), if_neg (by omega), if_pos (by decide)]
theorem atoi_plus (n : Nat) (hn : n ≤ 1000000000000) : Lib.atoiAll (43 :: Lib.decDigits n) = .ok (n : Int) := by
  unfold Lib.atoiAll
  simp only
  rw [if_pos (by decide), pm_dd n hn]
  simp only
  rw [if_neg (by omega), if_neg (fun h => absurd h.1 (by decide)), if_neg (by decide)]
theorem atoi_itoa (a : Int) (h : -1000000000000 ≤ a ∧ a ≤ 1000000000000) : Lib.atoiAll (Lib.itoa a) = .ok a := by
  unfold Lib.itoa
  split
  · rw [atoi_minus _ (by omega)]
    congr 1; omega
  · rw [atoi_dd _ (by omega)]
    congr 1; omega
theorem max_abs (b : Int) : max b (-b) = (b.natAbs : Int) := by omega
theorem itoa_abs (b : Int) : Lib.itoa (max b (-b)) = Lib.decDigits b.natAbs := by
  rw [max_abs]
  unfold Lib.itoa
  rw [if_neg (by omega), Int.toNat_natCast]
theorem atoi_sign (b : Int) (h : -1000000000000 ≤ b ∧ b ≤ 1000000000000) : Lib.atoiAll (signL b ++ Lib.itoa (max b (-b))) = .ok b := by
  rw [itoa_abs]
  unfold signL
  split
  · show Lib.atoiAll (45 :: Lib.decDigits b.natAbs) = _
    rw [atoi_minus _ (by omega)]
    congr 1; omega
  · show Lib.atoiAll (43 :: Lib.decDigits b.natAbs) = _
    rw [atoi_plus _ (by omega)]
    congr 1; omega
theorem sign_one (b : Int) : ∃ c, signL b = [c] ∧ (c = 43 ∨ c = 45) ∧ (if c = 45 then -1 else 1) * (b.natAbs : Int) = b := by
  unfold signL
  split
  · exact ⟨45, rfl, Or.inr rfl, by rw [if_pos rfl]; omega⟩
  · exact ⟨43, rfl, Or.inl rfl, by rw [if_neg (by decide)]; omega⟩
theorem itoa_pos (a : Int) : 1 ≤ (Lib.itoa a).length := by
  unfold Lib.itoa
  split
  · simp
  · exact dd_pos _
theorem textG_eq (a b : Int) : ∃ c, textG a b = Lib.itoa a ++ (c :: (Lib.decDigits b.natAbs ++ [105])) ∧ (c = 43 ∨ c = 45) ∧ (if c = 45 then -1 else 1) * (b.natAbs : Int) = b := by
  obtain ⟨c, h1, h2, h3⟩ := sign_one b
  refine ⟨c, ?_, h2, h3⟩
  unfold textG
  rw [h1, itoa_abs]
  simp
theorem lastS_textG (a b : Int) : lastS (textG a b) = ((Lib.itoa a).length : Nat) := by
  obtain ⟨c, h1, h2, _⟩ := textG_eq a b
  rw [h1]
  refine lastS_at _ _ (by simp) ?_ ?_
  · rw [List.getD_eq_getElem?_getD, List.getElem?_append_right (Nat.le_refl _), Nat.sub_self]
    exact h2
  · intro j hj hl
    have hj2 : j - (Lib.itoa a).length - 1 < (Lib.decDigits b.natAbs ++ [105]).length := by
      simp at hl ⊢; omega
    rw [List.getD_eq_getElem?_getD, List.getElem?_append_right (by omega), show j - (Lib.itoa a).length = (j - (Lib.itoa a).length - 1) + 1 by omega, List.getElem?_cons_succ, List.getElem?_eq_getElem hj2]
    simp only [Option.getD_some]
    have hm := List.getElem_mem hj2
    generalize (Lib.decDigits b.natAbs ++ [105])[j - (Lib.itoa a).length - 1] = x at *
    rcases List.mem_append.1 hm with h | h
    · have := dd_digit _ x h
      intro h9
      rcases h9 with h9 | h9 <;> rw [h9] at this <;> simp at this
    · rw [List.mem_singleton] at h
      rw [h]
      decide
/-- the law's scan of a text: the parts, the number at hand, its sign, and where the last sign stood -/
structure Sc where
  re : Int
  im : Int
  n : Nat
  sg : Int
  at_ : Nat
def sc1 (i : Nat) (c : UInt8) (x : Sc) : Sc :=
  if 48 ≤ c.toNat ∧ c.toNat ≤ 57 ∧ x.n < 100000000 then { x with n := 10 * x.n + (c.toNat - 48) }
  else if c = 105 then { x with im := x.sg * x.n }
  else if c = 43 ∨ c = 45 then { re := if 0 < i then x.sg * x.n else x.re, im := x.im, n := 0, sg := if c = 45 then -1 else 1, at_ := if 0 < i then i else x.at_ }
  else x
def scan : Nat → List UInt8 → Sc → Sc
  | _, [], x => x
  | i, c :: r, x => scan (i + 1) r (sc1 i c x)
theorem scan_append (l r : List UInt8) : ∀ i x, scan i (l ++ r) x = scan (i + l.length) r (scan i l x) := by
  induction l with
  | nil => intro i x; rfl
  | cons c t ih =>
    intro i x
    show scan (i + 1) (t ++ r) (sc1 i c x) = scan (i + (t.length + 1)) r (scan (i + 1) t (sc1 i c x))
    rw [ih, show i + 1 + t.length = i + (t.length + 1) by omega]
theorem scan_dd (n : Nat) : ∀ i re im sg at_, n ≤ 100000000 → scan i (Lib.decDigits n) ⟨re, im, 0, sg, at_⟩ = ⟨re, im, n, sg, at_⟩ := by
  induction n using Nat.strongRecOn with
  | _ n ih =>
    intro i re im sg at_ hn
    rw [Lib.decDigits]
    split
    · rename_i h
      show sc1 i (UInt8.ofNat (48 + n)) _ = _
      unfold sc1
      rw [UInt8.toNat_ofNat', if_pos ⟨by omega, by omega, by show 0 < _; omega⟩]
      show Sc.mk re im (10 * 0 + ((48 + n) % 2 ^ 8 - 48)) sg at_ = _
      rw [show 10 * 0 + ((48 + n) % 2 ^ 8 - 48) = n by omega]
    · rename_i h
      rw [scan_append, ih (n / 10) (by omega) i re im sg at_ (by omega)]
      show sc1 _ (UInt8.ofNat (48 + n % 10)) _ = _
      unfold sc1
      rw [UInt8.toNat_ofNat', if_pos ⟨by omega, by omega, by show n / 10 < _; omega⟩]
      show Sc.mk re im (10 * (n / 10) + ((48 + n % 10) % 2 ^ 8 - 48)) sg at_ = _
      rw [show 10 * (n / 10) + ((48 + n % 10) % 2 ^ 8 - 48) = n by omega]
theorem scan_textG (a b : Int) (ha : -1048576 ≤ a ∧ a ≤ 1048576) (hb : -1048576 ≤ b ∧ b ≤ 1048576) :
    (scan 0 (textG a b) ⟨0, 0, 0, 1, 0⟩).re = a ∧ (scan 0 (textG a b) ⟨0, 0, 0, 1, 0⟩).im = b ∧ (scan 0 (textG a b) ⟨0, 0, 0, 1, 0⟩).at_ = (Lib.itoa a).length := by
  obtain ⟨c, h1, h2, h3⟩ := textG_eq a b
  have hp := itoa_pos a
  have hA : ∃ n sg, scan 0 (Lib.itoa a) ⟨0, 0, 0, 1, 0⟩ = ⟨0, 0, n, sg, 0⟩ ∧ sg * (n : Int) = a := by
    unfold Lib.itoa
    split
    · refine ⟨a.natAbs, -1, ?_, by omega⟩
      show scan 1 (Lib.decDigits a.natAbs) (sc1 0 45 ⟨0, 0, 0, 1, 0⟩) = _
      exact scan_dd a.natAbs 1 0 0 (-1) 0 (by omega)
    · exact ⟨a.toNat, 1, scan_dd a.toNat 0 0 0 1 0 (by omega), by omega⟩
  obtain ⟨n, sg, hA1, hA2⟩ := hA
  have hs : sc1 (Lib.itoa a).length c ⟨0, 0, n, sg, 0⟩ = ⟨a, 0, 0, if c = 45 then -1 else 1, (Lib.itoa a).length⟩ := by
    unfold sc1
    rw [if_neg (by rcases h2 with rfl | rfl <;> simp), if_neg (by rcases h2 with rfl | rfl <;> decide), if_pos h2]
    simp only [if_pos (show 0 < (Lib.itoa a).length by omega), hA2]
  have hr : scan 0 (textG a b) ⟨0, 0, 0, 1, 0⟩ = ⟨a, b, b.natAbs, if c = 45 then -1 else 1, (Lib.itoa a).length⟩ := by
    rw [h1, scan_append, hA1]
    show scan (0 + (Lib.itoa a).length + 1) (Lib.decDigits b.natAbs ++ [105]) (sc1 (0 + (Lib.itoa a).length) c ⟨0, 0, n, sg, 0⟩) = _
    rw [Nat.zero_add, hs, scan_append, scan_dd _ _ _ _ _ _ (by omega)]
    show sc1 ((Lib.itoa a).length + 1 + (Lib.decDigits b.natAbs).length) 105 ⟨a, 0, b.natAbs, if c = 45 then -1 else 1, (Lib.itoa a).length⟩ = _
    unfold sc1
    rw [if_neg (fun h => absurd h.2.1 (by decide)), if_pos rfl]
    simp only
    rw [h3]
  rw [hr]
  exact ⟨rfl, rfl, rfl⟩
end Go.Proofs.YtbnmnkmjokcmfaaDoor
