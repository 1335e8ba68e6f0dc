import Derived.Laws.ComplexArith
/- Whole numbers as floating-point words: sums, products and conversions of numbers below 2^53 are exact. -/
namespace Go.Proofs.YtbnmnkmjokcmfaaDoor
open Ieee

/-- the word x stands for the whole number z -/
def Fl (z : Int) (x : Nat) : Prop := ∃ (s : Bool) (m k : Nat), Ieee.double.read x = .number s m (-(k : Int)) ∧ k ≤ 1074 ∧ signed s m 0 = z * 2 ^ k

theorem signed_shift (s : Bool) (m a : Nat) : signed s m a = signed s m 0 * 2 ^ a := by
  unfold signed
  cases s <;> simp [Nat.shiftLeft_eq, Int.natCast_mul, Int.natCast_pow, Int.neg_mul]

theorem near_zero (s : Bool) (p : Int) : Ieee.double.read (Ieee.double.nearest s 0 p) = .number s 0 (-1074) := by
  have e : Ieee.double.nearest s 0 p = Ieee.double.word s 0 := by unfold Format.nearest; rw [if_pos rfl]
  rw [e]
  cases s <;> rfl

theorem read_word (s : Bool) (l q : Nat) (hl : l ≤ 1074) (h1 : 4503599627370496 ≤ q) (h2 : q < 9007199254740992) :
    Ieee.double.read (Ieee.double.word s ((1074 - l) * 4503599627370496 + q)) = .number s q (-(l : Int)) := by
  have hB : Ieee.double.binade = 4503599627370496 := by decide +kernel
  have hW : Ieee.double.signWeight = 9223372036854775808 := by decide +kernel
  have hI : Ieee.double.infRung = 2047 * 4503599627370496 := by decide +kernel
  have hL : Ieee.double.leastPlace = -1074 := by decide +kernel
  have hr : (1074 - l) * 4503599627370496 + q < 1076 * 4503599627370496 := by omega
  have e3 : ((1074 - l) * 4503599627370496 + q) / 4503599627370496 = 1074 - l + 1 := by omega
  have e4 : ((1074 - l) * 4503599627370496 + q) % 4503599627370496 = q - 4503599627370496 := by omega
  have e1 : ¬ (1074 - l) * 4503599627370496 + q < 4503599627370496 := by omega
  have e2 : (1074 - l) * 4503599627370496 + q < 2047 * 4503599627370496 := by omega
  generalize (1074 - l) * 4503599627370496 + q = r at *
  have hw : Ieee.double.word s r / 9223372036854775808 % 2 = s.toNat ∧ Ieee.double.word s r % 9223372036854775808 = r := by
    unfold Format.word
    rw [hW]
    cases s
    · rw [if_neg (by decide), show Bool.toNat false = 0 from rfl]; omega
    · rw [if_pos rfl, show Bool.toNat true = 1 from rfl]; omega
  unfold Format.read
  rw [hW, hw.1, hw.2, hB, hI, hL]
  have e5 : (s.toNat == 1) = s := by cases s <;> rfl
  have e6 : 4503599627370496 + (q - 4503599627370496) = q := by omega
  have e7 : (-1074 : Int) + ((1074 - l + 1 - 1 : Nat) : Int) = -(l : Int) := by omega
  show (if r < 4503599627370496 then _ else if r < 2047 * 4503599627370496 then Datum.number (s.toNat == 1) (4503599627370496 + r % 4503599627370496) (-1074 + ((r / 4503599627370496 - 1 : Nat) : Int)) else _) = _
  rw [if_neg e1, if_pos e2, e3, e4, e5, e6, e7]

theorem cut_exact (s : Bool) (q d : Nat) (h : d ≤ (q * 2 ^ d).log2 + 2) : Toward.even.cut s (q * 2 ^ d) d = q := by
  unfold Toward.cut
  have e : min d ((q * 2 ^ d).log2 + 2) = d := by omega
  simp only [e, Nat.shiftLeft_eq, Nat.one_mul]
  have p : 0 < 2 ^ d := Nat.two_pow_pos d
  rw [Nat.mul_div_cancel _ p, Nat.mul_mod_left]
  have e1 : ¬ 2 ^ d < 2 * 0 := by omega
  have e2 : ¬ 2 ^ d = 2 * 0 := by omega
  simp [e1]

theorem near_int (s : Bool) (n K : Nat) (hn : n < 2 ^ 53) : ∃ m k : Nat, Ieee.double.read (Ieee.double.nearest s (n * 2 ^ K) (-(K : Int))) = .number s m (-(k : Int)) ∧ k ≤ 1074 ∧ m = n * 2 ^ k := by
  rcases Nat.eq_zero_or_pos n with h0 | h0
  · subst h0
    rw [Nat.zero_mul]
    obtain ⟨k, hk⟩ : ∃ k : Nat, k = 1074 := ⟨_, rfl⟩
    exact ⟨0, k, by rw [hk]; exact near_zero s _, by omega, (Nat.zero_mul _).symm⟩
  · have hl := Nat.log2_self_le (Nat.pos_iff_ne_zero.1 h0)
    have hu := Nat.lt_log2_self (n := n)
    have hl52 : n.log2 ≤ 52 := by
      apply Nat.le_of_not_lt
      intro h
      have := Nat.pow_le_pow_right (n := 2) (by decide) h
      omega
    have hlog : (n * 2 ^ K).log2 = n.log2 + K := by
      rw [Nat.log2_eq_iff (by have := Nat.mul_pos h0 (Nat.two_pow_pos K); omega)]
      constructor
      · rw [Nat.pow_add]; exact Nat.mul_le_mul_right _ hl
      · rw [show n.log2 + K + 1 = n.log2 + 1 + K by omega, Nat.pow_add]; exact Nat.mul_lt_mul_of_pos_right hu (Nat.two_pow_pos K)
    obtain ⟨j, hj⟩ : ∃ j, n.log2 + j = 52 := ⟨52 - n.log2, by omega⟩
    have hq1 : 4503599627370496 ≤ n * 2 ^ j := by
      rw [show 4503599627370496 = 2 ^ 52 by decide, ← hj, Nat.pow_add]; exact Nat.mul_le_mul_right _ hl
    have hq2 : n * 2 ^ j < 9007199254740992 := by
      rw [show 9007199254740992 = 2 ^ (n.log2 + 1 + j) by rw [show n.log2 + 1 + j = 53 by omega], Nat.pow_add]; exact Nat.mul_lt_mul_of_pos_right hu (Nat.two_pow_pos j)
    refine ⟨n * 2 ^ j, j, ?_, by omega, rfl⟩
    have hne : ¬ n * 2 ^ K = 0 := by have := Nat.mul_pos h0 (Nat.two_pow_pos K); omega
    have hf : Ieee.double.fractionBits = 52 := by decide +kernel
    have hL : Ieee.double.leastPlace = -1074 := by decide +kernel
    have hB : Ieee.double.binade = 4503599627370496 := by decide +kernel
    have hI : Ieee.double.infRung = 2047 * 4503599627370496 := by decide +kernel
    have hlast : max (-(K : Int) + ((n.log2 + K : Nat) : Int) - ((52 : Nat) : Int)) (-1074) = -(j : Int) := by omega
    have hnear : Ieee.double.nearest s (n * 2 ^ K) (-(K : Int)) = Ieee.double.word s (min ((max (-(K : Int) + ((n * 2 ^ K).log2 : Int) - (Ieee.double.fractionBits : Int)) Ieee.double.leastPlace - Ieee.double.leastPlace).toNat * Ieee.double.binade + Toward.even.cut s ((n * 2 ^ K) <<< (-(K : Int) - max (-(K : Int) + ((n * 2 ^ K).log2 : Int) - (Ieee.double.fractionBits : Int)) Ieee.double.leastPlace).toNat) (max (-(K : Int) + ((n * 2 ^ K).log2 : Int) - (Ieee.double.fractionBits : Int)) Ieee.double.leastPlace - -(K : Int)).toNat) Ieee.double.infRung) := by
      unfold Format.nearest
      rw [if_neg hne]
    rw [hnear, hlog, hf, hL, hB, hI, hlast]
    have hk : Toward.even.cut s ((n * 2 ^ K) <<< (-(K : Int) - -(j : Int)).toNat) (-(j : Int) - -(K : Int)).toNat = n * 2 ^ j := by
      rcases Nat.le_total K j with h | h
      · have a1 : (-(K : Int) - -(j : Int)).toNat = j - K := by omega
        have a2 : (-(j : Int) - -(K : Int)).toNat = 0 := by omega
        have a3 : (n * 2 ^ K) <<< (j - K) = n * 2 ^ j := by rw [Nat.shiftLeft_eq, Nat.mul_assoc, ← Nat.pow_add, Nat.add_sub_cancel' h]
        have := cut_exact s (n * 2 ^ j) 0 (Nat.zero_le _)
        rw [Nat.pow_zero, Nat.mul_one] at this
        rw [a1, a2, a3, this]
      · have a1 : (-(K : Int) - -(j : Int)).toNat = 0 := by omega
        have a2 : (-(j : Int) - -(K : Int)).toNat = K - j := by omega
        have a3 : n * 2 ^ K = n * 2 ^ j * 2 ^ (K - j) := by rw [Nat.mul_assoc, ← Nat.pow_add, Nat.add_sub_cancel' h]
        have := cut_exact s (n * 2 ^ j) (K - j) (by rw [← a3, hlog]; omega)
        rw [a1, a2, Nat.shiftLeft_zero, a3, this]
    rw [hk]
    have e1 : (-(j : Int) - -1074).toNat = 1074 - j := by omega
    have e2 : min ((1074 - j) * 4503599627370496 + n * 2 ^ j) (2047 * 4503599627370496) = (1074 - j) * 4503599627370496 + n * 2 ^ j := by
      refine Nat.min_eq_left ?_
      have h3 : (1074 - j) * 4503599627370496 ≤ 1074 * 4503599627370496 := Nat.mul_le_mul_right _ (Nat.sub_le _ _)
      exact Nat.le_trans (Nat.add_le_add h3 (Nat.le_of_lt hq2)) (by decide)
    have h9 := read_word s j (n * 2 ^ j) (by omega) hq1 hq2
    rw [e1, e2, h9]

theorem signed_zero {s : Bool} {m : Nat} : signed s m 0 = if s then -(m : Int) else m := by
  unfold signed; simp

theorem Fl.of_near {z : Int} {s : Bool} {n K : Nat} (hn : n < 2 ^ 53) (h : (if s then -(n : Int) else n) = z) : Fl z (Ieee.double.nearest s (n * 2 ^ K) (-(K : Int))) := by
  obtain ⟨m, k, h1, h2, h3⟩ := near_int s n K hn
  refine ⟨s, m, k, h1, h2, ?_⟩
  rw [signed_zero, h3, ← h]
  cases s <;> simp [Int.natCast_mul, Int.natCast_pow, Int.neg_mul]

theorem fl_of_int (z : Int) (h : z.natAbs < 2 ^ 53) : Fl z (FloatKind.f64.nearest z) := by
  have := Fl.of_near (z := z) (s := decide (z < 0)) (n := z.natAbs) (K := 0) h (by by_cases hz : z < 0 <;> simp [hz] <;> omega)
  simpa [FloatKind.nearest, FloatKind.encode, FloatKind.format, Format.write] using this

theorem shifted {s : Bool} {m k K : Nat} {z : Int} (h : signed s m 0 = z * 2 ^ k) (hk : k ≤ K) : signed s m (K - k) = z * 2 ^ K := by
  rw [signed_shift, h, Int.mul_assoc, ← Int.pow_add, Nat.add_sub_cancel' hk]

theorem natAbs_pow (z : Int) (K : Nat) : (z * 2 ^ K).natAbs = z.natAbs * 2 ^ K := by
  rw [Int.natAbs_mul, Int.natAbs_pow]; rfl

theorem pow_pos' (K : Nat) : (0 : Int) < 2 ^ K := by
  have := Nat.two_pow_pos K
  have h : ((2 ^ K : Nat) : Int) = 2 ^ K := by simp
  omega

theorem sum_number {s t : Bool} {m n k l : Nat} {y z : Int} (h : signed s m 0 = y * 2 ^ k) (g : signed t n 0 = z * 2 ^ l) (hb : (y + z).natAbs < 2 ^ 53) :
    ∃ d, Datum.sum (.number s m (-(k : Int))) (.number t n (-(l : Int))) = some d ∧ Fl (y + z) (Ieee.double.write d) := by
  unfold Datum.sum
  refine ⟨_, rfl, ?_⟩
  have hm : min (-(k : Int)) (-(l : Int)) = -((max k l : Nat) : Int) := by omega
  simp only [hm]
  have e1 : (-(k : Int) - -((max k l : Nat) : Int)).toNat = max k l - k := by omega
  have e2 : (-(l : Int) - -((max k l : Nat) : Int)).toNat = max k l - l := by omega
  rw [e1, e2, shifted h (by omega), shifted g (by omega), ← Int.add_mul, natAbs_pow]
  generalize max k l = K
  unfold Format.write
  refine Fl.of_near hb ?_
  have hp := pow_pos' K
  by_cases hz : y + z = 0
  · rw [hz]; simp
  · have h1 : ¬ (y + z) * 2 ^ K = 0 := by
      intro h
      rcases Int.mul_eq_zero.1 h with h | h
      · exact hz h
      · omega
    rw [if_neg h1]
    by_cases hn : y + z < 0
    · have : (y + z) * 2 ^ K < 0 := Int.mul_neg_of_neg_of_pos hn hp
      simp only [this, decide_true, if_true]; omega
    · have : ¬ (y + z) * 2 ^ K < 0 := by
        have := Int.mul_nonneg (a := y + z) (b := 2 ^ K) (by omega) (by omega)
        omega
      simp only [this, decide_false, Bool.false_eq_true, if_false]; omega

theorem fl_add {x y : Nat} {a b : Int} (h : Fl a x) (g : Fl b y) (hb : (a + b).natAbs < 2 ^ 53) : ∃ r, floatBits .add .f64 x y = some r ∧ Fl (a + b) r := by
  obtain ⟨s, m, k, h1, h2, h3⟩ := h
  obtain ⟨t, n, l, g1, g2, g3⟩ := g
  obtain ⟨d, d1, d2⟩ := sum_number h3 g3 hb
  refine ⟨_, ?_, d2⟩
  show (((Ieee.double.read x).sum (Ieee.double.read y)).map Ieee.double.write) = _
  rw [h1, g1, d1]; rfl

theorem fl_sub {x y : Nat} {a b : Int} (h : Fl a x) (g : Fl b y) (hb : (a - b).natAbs < 2 ^ 53) : ∃ r, floatBits .sub .f64 x y = some r ∧ Fl (a - b) r := by
  obtain ⟨s, m, k, h1, h2, h3⟩ := h
  obtain ⟨t, n, l, g1, g2, g3⟩ := g
  have g4 : signed (!t) n 0 = -b * 2 ^ l := by
    rw [Int.neg_mul, ← g3, signed_zero, signed_zero]; cases t <;> simp
  obtain ⟨d, d1, d2⟩ := sum_number h3 g4 (by rw [← Int.sub_eq_add_neg]; exact hb)
  refine ⟨_, ?_, by rw [Int.sub_eq_add_neg]; exact d2⟩
  show (((Ieee.double.read x).sum (Ieee.double.read y).opposite).map Ieee.double.write) = _
  rw [h1, g1]
  show ((Datum.sum _ (.number (!t) n (-(l : Int)))).map Ieee.double.write) = _
  rw [d1]; rfl

theorem fl_mul {x y : Nat} {a b : Int} (h : Fl a x) (g : Fl b y) (hb : (a * b).natAbs < 2 ^ 53) : ∃ r, floatBits .mul .f64 x y = some r ∧ Fl (a * b) r := by
  obtain ⟨s, m, k, h1, h2, h3⟩ := h
  obtain ⟨t, n, l, g1, g2, g3⟩ := g
  refine ⟨Ieee.double.nearest (s ^^ t) (m * n) (-(k : Int) + -(l : Int)), ?_, ?_⟩
  · show (((Ieee.double.read x).product (Ieee.double.read y)).map Ieee.double.write) = _
    rw [h1, g1]; rfl
  · have e : m * n = (a * b).natAbs * 2 ^ (k + l) := by
      have hm : m = a.natAbs * 2 ^ k := by rw [← natAbs_pow, ← h3, signed_zero]; cases s <;> simp
      have hn : n = b.natAbs * 2 ^ l := by rw [← natAbs_pow, ← g3, signed_zero]; cases t <;> simp
      rw [hm, hn, Int.natAbs_mul, Nat.pow_add]
      simp only [Nat.mul_assoc, Nat.mul_left_comm, Nat.mul_comm]
    rw [e, show -(k : Int) + -(l : Int) = -((k + l : Nat) : Int) by omega]
    refine Fl.of_near hb ?_
    have hpk := pow_pos' k
    have hpl := pow_pos' l
    have sa : (s = true → a ≤ 0) ∧ (s = false → 0 ≤ a) := by
      rw [signed_zero] at h3
      constructor
      · rintro rfl
        rw [if_pos rfl] at h3
        apply Int.le_of_not_gt; intro hc
        have := Int.mul_pos hc hpk
        omega
      · rintro rfl
        rw [if_neg (by decide)] at h3
        apply Int.le_of_not_gt; intro hc
        have := Int.mul_neg_of_neg_of_pos hc hpk
        omega
    have sb : (t = true → b ≤ 0) ∧ (t = false → 0 ≤ b) := by
      rw [signed_zero] at g3
      constructor
      · rintro rfl
        rw [if_pos rfl] at g3
        apply Int.le_of_not_gt; intro hc
        have := Int.mul_pos hc hpl
        omega
      · rintro rfl
        rw [if_neg (by decide)] at g3
        apply Int.le_of_not_gt; intro hc
        have := Int.mul_neg_of_neg_of_pos hc hpl
        omega
    cases s <;> cases t
    · have := Int.mul_nonneg (sa.2 rfl) (sb.2 rfl)
      simp only [Bool.xor_self, Bool.false_eq_true, if_false]; omega
    · have := Int.mul_nonneg (sa.2 rfl) (b := -b) (by have := sb.1 rfl; omega)
      rw [Int.mul_neg] at this
      simp only [Bool.false_xor, if_true]; omega
    · have := Int.mul_nonneg (a := -a) (by have := sa.1 rfl; omega) (sb.2 rfl)
      rw [Int.neg_mul] at this
      simp only [Bool.xor_false, if_true]; omega
    · have := Int.mul_nonneg (a := -a) (b := -b) (by have := sa.1 rfl; omega) (by have := sb.1 rfl; omega)
      rw [Int.neg_mul_neg] at this
      simp only [Bool.xor_self, Bool.false_eq_true, if_false]; omega

theorem cut_zero_exact (s : Bool) (q d : Nat) (h : d ≤ (q * 2 ^ d).log2 + 2) : Toward.zero.cut s (q * 2 ^ d) d = q := by
  unfold Toward.cut
  have e : min d ((q * 2 ^ d).log2 + 2) = d := by omega
  simp only [e, Nat.shiftLeft_eq, Nat.one_mul]
  have p : 0 < 2 ^ d := Nat.two_pow_pos d
  rw [Nat.mul_div_cancel _ p]; simp

theorem fl_toInt {x : Nat} {z : Int} (h : Fl z x) (hz : IntKind.i64.min ≤ z ∧ z ≤ IntKind.i64.max) : floatToIntVal .f64 x .i64 = some z := by
  obtain ⟨s, m, k, h1, h2, h3⟩ := h
  have hm : m = z.natAbs * 2 ^ k := by rw [← natAbs_pow, ← h3, signed_zero]; cases s <;> simp
  have hi : (FloatKind.f64.decode x).toInt .zero = some z := by
    show (Ieee.double.read x).toInt .zero = _
    rw [h1]
    unfold Datum.toInt Datum.integral
    have e1 : (-(k : Int)).toNat = 0 := by omega
    have e2 : (- -(k : Int)).toNat = k := by omega
    simp only [e1, e2, Nat.shiftLeft_zero]
    have hc : Toward.zero.cut s m k = z.natAbs := by
      rcases Nat.eq_zero_or_pos z.natAbs with h0 | h0
      · rw [hm, h0, Nat.zero_mul]
        unfold Toward.cut; simp
      · rw [hm]
        refine cut_zero_exact s _ _ ?_
        have : k ≤ (z.natAbs * 2 ^ k).log2 := by
          rw [Nat.le_log2 (by have := Nat.mul_pos h0 (Nat.two_pow_pos k); omega)]
          exact Nat.le_mul_of_pos_left _ h0
        omega
    rw [hc]
    congr 1
    rw [signed_zero]
    have hp := pow_pos' k
    rw [signed_zero] at h3
    cases s
    · simp only [Bool.false_eq_true, if_false] at *
      have : 0 ≤ z := by
        apply Int.le_of_not_gt; intro hc
        have := Int.mul_neg_of_neg_of_pos hc hp
        omega
      omega
    · simp only [if_true] at *
      have : z ≤ 0 := by
        apply Int.le_of_not_gt; intro hc
        have := Int.mul_pos hc hp
        omega
      omega
  unfold floatToIntVal
  rw [hi]
  show (if IntKind.i64.min ≤ z ∧ z ≤ IntKind.i64.max then some z else none) = some z
  exact if_pos hz

theorem csum_fl {a b c d : Int} {p q r s : Nat} (h1 : Fl a p) (h2 : Fl b q) (h3 : Fl c r) (h4 : Fl d s) (b1 : (a + c).natAbs < 2 ^ 53) (b2 : (b + d).natAbs < 2 ^ 53) :
    ∃ u v, (∀ (P : Program) (t : TypeId) (w : World), (binOp .add t (.complex .f64 p q) (.complex .f64 r s)).run P w = .ok (.complex .f64 u v) w) ∧ Fl (a + c) u ∧ Fl (b + d) v := by
  obtain ⟨u, e1, f1⟩ := fl_add h1 h3 b1
  obtain ⟨v, e2, f2⟩ := fl_add h2 h4 b2
  exact ⟨u, v, fun P t w => run_complex_sum w .add (Or.inl rfl) t .f64 p q r s u v (by simp [cSumBits, e1, e2]), f1, f2⟩
theorem cmul_fl {a b c d : Int} {p q r s : Nat} (h1 : Fl a p) (h2 : Fl b q) (h3 : Fl c r) (h4 : Fl d s) (b1 : (a * c).natAbs < 2 ^ 51) (b2 : (b * d).natAbs < 2 ^ 51) (b3 : (a * d).natAbs < 2 ^ 51) (b4 : (b * c).natAbs < 2 ^ 51) :
    ∃ u v, (∀ (P : Program) (t : TypeId) (w : World), (binOp .mul t (.complex .f64 p q) (.complex .f64 r s)).run P w = .ok (.complex .f64 u v) w) ∧ Fl (a * c - b * d) u ∧ Fl (a * d + b * c) v := by
  obtain ⟨k1, e1, f1⟩ := fl_mul h1 h3 (by omega)
  obtain ⟨k2, e2, f2⟩ := fl_mul h2 h4 (by omega)
  obtain ⟨k3, e3, f3⟩ := fl_mul h1 h4 (by omega)
  obtain ⟨k4, e4, f4⟩ := fl_mul h2 h3 (by omega)
  obtain ⟨u, e5, f5⟩ := fl_sub f1 f2 (by omega)
  obtain ⟨v, e6, f6⟩ := fl_add f3 f4 (by omega)
  exact ⟨u, v, fun P t w => run_complex_mul w t p q r s u v (by simp [cMulBits, e1, e2, e3, e4, e5, e6]), f5, f6⟩
theorem Fl.cast {a b : Int} {x : Nat} (h : Fl a x) (e : a = b) : Fl b x := e ▸ h
theorem fl_zero : Fl 0 0 := ⟨false, 0, 1074, rfl, by decide, by rw [Int.zero_mul]; rfl⟩
theorem fl_one : Fl 1 4607182418800017408 := ⟨false, 4503599627370496, 52, rfl, by decide, rfl⟩
theorem fl_minus : Fl (-1) 13830554455654793216 := ⟨true, 4503599627370496, 52, rfl, by decide, rfl⟩
theorem fl_int (z : Int) (h : -(2 ^ 52) ≤ z ∧ z ≤ 2 ^ 52) : Fl z (floatOfInt .f64 z) := fl_of_int z (by omega)
theorem fl_conv {P : Program} {src dst : TypeId} (hs : (P.underlying src).isSome = true) (hd : P.underlying dst = some (.int .i64)) {x : Nat} {z : Int} (h : Fl z x) (hz : -(2 ^ 60) ≤ z ∧ z ≤ 2 ^ 60) (w : World) :
    (convert src dst (.float .f64 x)).run P w = .ok (.int .i64 z) w :=
  run_convert_float_int w src dst .f64 .i64 x z hs hd (fl_toInt h (by constructor <;> simp [IntKind.min, IntKind.max, IntKind.signed, IntKind.bits] <;> omega))
end Go.Proofs.YtbnmnkmjokcmfaaDoor
