import Derived.Laws.BitsAllLaws
namespace Go.Proofs.Ytnblbneehogadaa.WM
def of8 (l : Nat → Nat) : Nat := l 0 + 256 * (l 1 + 256 * (l 2 + 256 * (l 3 + 256 * (l 4 + 256 * (l 5 + 256 * (l 6 + 256 * l 7))))))
theorem op_and (a b c d : Nat) (ha : a < 256) (hc : c < 256) : (a + 256 * b) &&& (c + 256 * d) = (a &&& c) + 256 * (b &&& d) := by
  have hac : a &&& c < 2 ^ 8 := Nat.and_lt_two_pow _ hc
  apply Nat.eq_of_testBit_eq; intro i
  rw [Nat.add_comm a, Nat.add_comm c, Nat.add_comm (a &&& c), Nat.testBit_and]
  rw [show (256:Nat) = 2^8 from rfl, Nat.testBit_two_pow_mul_add _ ha, Nat.testBit_two_pow_mul_add _ hc, Nat.testBit_two_pow_mul_add _ hac]
  split <;> simp
theorem op_or (a b c d : Nat) (ha : a < 256) (hc : c < 256) : (a + 256 * b) ||| (c + 256 * d) = (a ||| c) + 256 * (b ||| d) := by
  have hac : a ||| c < 2 ^ 8 := Nat.or_lt_two_pow ha hc
  apply Nat.eq_of_testBit_eq; intro i
  rw [Nat.add_comm a, Nat.add_comm c, Nat.add_comm (a ||| c), Nat.testBit_or]
  rw [show (256:Nat) = 2^8 from rfl, Nat.testBit_two_pow_mul_add _ ha, Nat.testBit_two_pow_mul_add _ hc, Nat.testBit_two_pow_mul_add _ hac]
  split <;> simp
theorem op_xor (a b c d : Nat) (ha : a < 256) (hc : c < 256) : (a + 256 * b) ^^^ (c + 256 * d) = (a ^^^ c) + 256 * (b ^^^ d) := by
  have hac : a ^^^ c < 2 ^ 8 := Nat.xor_lt_two_pow ha hc
  apply Nat.eq_of_testBit_eq; intro i
  rw [Nat.add_comm a, Nat.add_comm c, Nat.add_comm (a ^^^ c), Nat.testBit_xor]
  rw [show (256:Nat) = 2^8 from rfl, Nat.testBit_two_pow_mul_add _ ha, Nat.testBit_two_pow_mul_add _ hc, Nat.testBit_two_pow_mul_add _ hac]
  split <;> simp
theorem of8_and (l m : Nat → Nat) (hl : ∀ i, l i < 256) (hm : ∀ i, m i < 256) : of8 l &&& of8 m = of8 (fun i => l i &&& m i) := by
  unfold of8; repeat rw [op_and _ _ _ _ (hl _) (hm _)]
theorem of8_or (l m : Nat → Nat) (hl : ∀ i, l i < 256) (hm : ∀ i, m i < 256) : of8 l ||| of8 m = of8 (fun i => l i ||| m i) := by
  unfold of8; repeat rw [op_or _ _ _ _ (hl _) (hm _)]
theorem of8_xor (l m : Nat → Nat) (hl : ∀ i, l i < 256) (hm : ∀ i, m i < 256) : of8 l ^^^ of8 m = of8 (fun i => l i ^^^ m i) := by
  unfold of8; repeat rw [op_xor _ _ _ _ (hl _) (hm _)]
theorem of8_add (l m : Nat → Nat) : of8 l + of8 m = of8 (fun i => l i + m i) := by
  simp only [of8]; omega
def lane (W i : Nat) : Nat := W / 256 ^ i % 256
theorem lane_lt (W i : Nat) : lane W i < 256 := Nat.mod_lt _ (by decide)
theorem of8_lane (W : Nat) (h : W < 18446744073709551616) : of8 (lane W) = W := by
  simp only [of8, lane]; simp; omega
theorem lane_of8 (l : Nat → Nat) (hl : ∀ i, l i < 256) (i : Nat) (hi : i < 8) : lane (of8 l) i = l i := by
  have h0 := hl 0; have h1 := hl 1; have h2 := hl 2; have h3 := hl 3; have h4 := hl 4; have h5 := hl 5; have h6 := hl 6; have h7 := hl 7
  unfold lane of8
  match i, hi with
  | 0, _ => simp; omega
  | 1, _ => simp; omega
  | 2, _ => simp; omega
  | 3, _ => simp; omega
  | 4, _ => simp; omega
  | 5, _ => simp; omega
  | 6, _ => simp; omega
  | 7, _ => simp; omega
theorem of8_lt (l : Nat → Nat) (hl : ∀ i, l i < 256) : of8 l < 18446744073709551616 := by
  have h0 := hl 0; have h1 := hl 1; have h2 := hl 2; have h3 := hl 3; have h4 := hl 4; have h5 := hl 5; have h6 := hl 6; have h7 := hl 7
  unfold of8; omega
theorem byte_match : ∀ x, x < 256 → 255 - (((x &&& 127) + 127) ||| x ||| 127) = if x = 0 then 128 else 0 := by decide +kernel
theorem byte_high : ∀ x, x < 256 → x &&& 128 = if 128 ≤ x then 128 else 0 := by decide +kernel
def set8 (c : Nat → Bool) : Nat := (c 0).toNat + 2 * ((c 1).toNat + 2 * ((c 2).toNat + 2 * ((c 3).toNat + 2 * ((c 4).toNat + 2 * ((c 5).toNat + 2 * ((c 6).toNat + 2 * (c 7).toNat))))))

def gatherN (w : Nat) : Nat := w / 128 * 72624976668147840 % 18446744073709551616 / 72057594037927936 % 256
theorem gather8 : ∀ c0 c1 c2 c3 c4 c5 c6 c7 : Bool, gatherN ((bif c0 then 128 else 0) + 256 * ((bif c1 then 128 else 0) + 256 * ((bif c2 then 128 else 0) + 256 * ((bif c3 then 128 else 0) + 256 * ((bif c4 then 128 else 0) + 256 * ((bif c5 then 128 else 0) + 256 * ((bif c6 then 128 else 0) + 256 * (bif c7 then 128 else 0)))))))) = c0.toNat + 2 * (c1.toNat + 2 * (c2.toNat + 2 * (c3.toNat + 2 * (c4.toNat + 2 * (c5.toNat + 2 * (c6.toNat + 2 * c7.toNat)))))) := by decide +kernel
theorem gather_of8 (c : Nat → Bool) : gatherN (of8 (fun i => bif c i then 128 else 0)) = set8 c := gather8 _ _ _ _ _ _ _ _
def matchN (W b : Nat) : Nat := set8 (fun i => lane W i == b)
def highN (W : Nat) : Nat := set8 (fun i => decide (128 ≤ lane W i))
def rangeN (W a b : Nat) : Nat := set8 (fun i => decide (a ≤ lane W i) && decide (lane W i ≤ b))
theorem repeat_of8 (b : Nat) : 72340172838076673 * b = of8 (fun _ => b) := by simp only [of8]; omega
theorem low_of8 : 9187201950435737471 = of8 (fun _ => 127) := by decide
theorem top_of8 : 9259542123273814144 = of8 (fun _ => 128) := by decide
theorem all_of8 : 18446744073709551615 = of8 (fun _ => 255) := by decide
theorem of8_sub (l : Nat → Nat) (hl : ∀ i, l i < 256) : 18446744073709551615 - of8 l = of8 (fun i => 255 - l i) := by
  have h0 := hl 0; have h1 := hl 1; have h2 := hl 2; have h3 := hl 3; have h4 := hl 4; have h5 := hl 5; have h6 := hl 6; have h7 := hl 7
  simp only [of8]; omega
theorem match_eq (W b : Nat) (hW : W < 18446744073709551616) (hb : b < 256) :
    gatherN (18446744073709551615 - ((((W ^^^ 72340172838076673 * b) &&& 9187201950435737471) + 9187201950435737471) ||| (W ^^^ 72340172838076673 * b) ||| 9187201950435737471)) = matchN W b := by
  have hx : ∀ i, lane W i ^^^ b < 256 := fun i => Nat.xor_lt_two_pow (n := 8) (lane_lt W i) hb
  have ha : ∀ i, (lane W i ^^^ b) &&& 127 < 128 := fun i => Nat.and_lt_two_pow (n := 7) _ (by decide)
  rw [repeat_of8, low_of8]
  conv => lhs; arg 1; rw [← of8_lane W hW]
  rw [of8_xor _ _ (lane_lt W) (fun _ => hb), of8_and _ _ hx (fun _ => by decide), of8_add, of8_or _ _ (fun i => by have := ha i; omega) hx, of8_or _ _ (fun i => Nat.or_lt_two_pow (n := 8) (by have := ha i; omega) (hx i)) (fun _ => by decide), of8_sub _ (fun i => Nat.or_lt_two_pow (n := 8) (Nat.or_lt_two_pow (n := 8) (by have := ha i; omega) (hx i)) (by decide))]
  rw [show (fun i => 255 - (((lane W i ^^^ b) &&& 127) + 127 ||| (lane W i ^^^ b) ||| 127)) = (fun i => bif lane W i == b then 128 else 0) from ?_, gather_of8]; rfl
  funext i
  rw [byte_match _ (hx i)]
  by_cases h : lane W i = b
  · simp [h]
  · have h1 : lane W i ^^^ b ≠ 0 := fun e => h (by have e2 := congrArg (· ^^^ b) e; simpa [Nat.xor_assoc] using e2)
    have h2 : (lane W i == b) = false := by simpa using h
    rw [if_neg h1, h2]; rfl
theorem high_eq (W : Nat) (hW : W < 18446744073709551616) : gatherN (W &&& (18446744073709551615 - 9187201950435737471)) = highN W := by
  rw [show 18446744073709551615 - 9187201950435737471 = of8 (fun _ => 128) from by decide]
  conv => lhs; arg 1; rw [← of8_lane W hW]
  rw [of8_and _ _ (lane_lt W) (fun _ => by decide), show (fun i => lane W i &&& 128) = (fun i => bif decide (128 ≤ lane W i) then 128 else 0) from ?_, gather_of8]; rfl
  funext i
  rw [byte_high _ (lane_lt W i)]
  by_cases h : 128 ≤ lane W i <;> simp [h]
theorem set8_ext (c d : Nat → Bool) (h : ∀ i, i < 8 → c i = d i) : set8 c = set8 d := by
  simp only [set8, h 0 (by decide), h 1 (by decide), h 2 (by decide), h 3 (by decide), h 4 (by decide), h 5 (by decide), h 6 (by decide), h 7 (by decide)]
theorem set8_lt (c : Nat → Bool) : set8 c < 256 := by
  have h (i) : (c i).toNat ≤ 1 := Bool.toNat_le _
  have h0 := h 0; have h1 := h 1; have h2 := h 2; have h3 := h 3; have h4 := h 4; have h5 := h 5; have h6 := h 6; have h7 := h 7
  unfold set8; omega
theorem match_range (W b : Nat) : matchN W b = rangeN W b b := set8_ext _ _ fun i _ => by
  rw [Bool.eq_iff_iff]; simp; omega
theorem high_range (W : Nat) : highN W = rangeN W 128 255 := set8_ext _ _ fun i _ => by
  have := lane_lt W i; rw [Bool.eq_iff_iff]; simp; omega
/-- A word with another byte in a lane. -/
def withN (W i b : Nat) : Nat := of8 (fun j => if j = i then b else lane W j)
theorem shl_of8 (i b : Nat) (hi : i < 8) : b * 256 ^ i = of8 (fun j => if j = i then b else 0) := by
  match i, hi with
  | 0, _ => simp [of8]
  | 1, _ => simp [of8]; omega
  | 2, _ => simp [of8]; omega
  | 3, _ => simp [of8]; omega
  | 4, _ => simp [of8]; omega
  | 5, _ => simp [of8]; omega
  | 6, _ => simp [of8]; omega
  | 7, _ => simp [of8]; omega
theorem byte_keep : ∀ x, x < 256 → (x &&& (255 - 0)) ||| 0 = x := by decide +kernel
theorem with_eq (W i b : Nat) (hW : W < 18446744073709551616) (hi : i < 8) (hb : b < 256) :
    (W &&& (18446744073709551615 - 255 * 256 ^ i)) ||| (b * 256 ^ i) = withN W i b := by
  rw [shl_of8 i b hi, shl_of8 i 255 hi]
  conv => lhs; arg 1; arg 1; rw [← of8_lane W hW]
  rw [of8_sub _ (fun j => by show (if j = i then 255 else 0) < 256; split <;> decide), of8_and _ _ (lane_lt W) (fun j => by show 255 - (if j = i then 255 else 0) < 256; omega),
    of8_or _ _ (fun j => Nat.lt_of_le_of_lt Nat.and_le_left (lane_lt W j)) (fun j => by show (if j = i then b else 0) < 256; split <;> omega)]
  unfold withN
  congr 1
  funext j
  by_cases h : j = i
  · simp [h]
  · simp only [if_neg h]; exact byte_keep _ (lane_lt W j)
theorem with_of8 (W i b : Nat) : of8 (fun j => if j = i then b else lane W j) = withN W i b := rfl
theorem withN_lt (W i b : Nat) (hb : b < 256) : withN W i b < 18446744073709551616 := of8_lt _ fun j => by
  show (if j = i then b else lane W j) < 256
  split
  · exact hb
  · exact lane_lt W j
theorem or_join (a b k : Nat) (ha : a < 256 ^ k) : a ||| (b * 256 ^ k) = a + b * 256 ^ k := by
  rw [Nat.or_comm, Go.nat_join (8 * k) (b * 256 ^ k) a (by rw [Nat.pow_mul]; exact Nat.mul_mod_left _ _) (by rw [Nat.pow_mul]; exact ha), Nat.add_comm]
theorem load_eq (l : Nat → Nat) (hl : ∀ i, l i < 256) :
    (((((((0 ||| l 0) ||| l 1 * 256) ||| l 2 * 65536) ||| l 3 * 16777216) ||| l 4 * 4294967296) ||| l 5 * 1099511627776) ||| l 6 * 281474976710656) ||| l 7 * 72057594037927936 = of8 l := by
  have h0 := hl 0; have h1 := hl 1; have h2 := hl 2; have h3 := hl 3; have h4 := hl 4; have h5 := hl 5; have h6 := hl 6; have h7 := hl 7
  have e1 := or_join (l 0) (l 1) 1 (by omega)
  have e2 := or_join (l 0 + l 1 * 256) (l 2) 2 (by omega)
  have e3 := or_join (l 0 + l 1 * 256 + l 2 * 65536) (l 3) 3 (by omega)
  have e4 := or_join (l 0 + l 1 * 256 + l 2 * 65536 + l 3 * 16777216) (l 4) 4 (by omega)
  have e5 := or_join (l 0 + l 1 * 256 + l 2 * 65536 + l 3 * 16777216 + l 4 * 4294967296) (l 5) 5 (by omega)
  have e6 := or_join (l 0 + l 1 * 256 + l 2 * 65536 + l 3 * 16777216 + l 4 * 4294967296 + l 5 * 1099511627776) (l 6) 6 (by omega)
  have e7 := or_join (l 0 + l 1 * 256 + l 2 * 65536 + l 3 * 16777216 + l 4 * 4294967296 + l 5 * 1099511627776 + l 6 * 281474976710656) (l 7) 7 (by omega)
  simp only [Nat.reducePow, Nat.pow_one] at e1 e2 e3 e4 e5 e6 e7
  rw [Nat.zero_or, e1, e2, e3, e4, e5, e6, e7]; simp only [of8]; omega
end Go.Proofs.Ytnblbneehogadaa.WM
