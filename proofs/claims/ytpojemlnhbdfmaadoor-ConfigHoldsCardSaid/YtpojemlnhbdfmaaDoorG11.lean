import Derived.Test.YtpojemlnhbdfmaaDoorG10
/- The law's walk: ConfigHolds. -/
namespace Go.Proofs.YtpojemlnhbdfmaaDoor
open Go.RowKit

theorem mul_le (b b' p p' : Int) (hb : 0 ≤ b) (hp : 0 ≤ p) (h1 : b ≤ b') (h2 : p ≤ p') : b * p ≤ b' * p' := Int.mul_le_mul h1 h2 hp (by omega)
theorem part_mono (a b p a' b' p' : Int) (h : chk3 a b p = 0) (h' : chk3 a' b' p' = 0) (h1 : b ≤ b') (h2 : p ≤ p') (h3 : p = 0 → p' = 0) : part3 a b p ≤ part3 a' b' p' := by
  obtain ⟨g1, g2, g3, g4, g5, g6⟩ := chk3_0 h
  obtain ⟨k1, k2, k3, k4, k5, k6⟩ := chk3_0 h'
  unfold part3
  rw [if_pos h, if_pos h']
  by_cases hp : p = 0
  · rw [if_pos hp, if_pos (h3 hp)]; omega
  · rw [if_neg hp, if_neg (by omega)]
    have := mul_le b b' p p' (by omega) g5 h1 h2
    exact Int.ediv_le_ediv (by decide) this
theorem part_lo (a b p : Int) (h : chk3 a b p = 0) : -1 ≤ part3 a b p ∧ part3 a b p < b ∧ (part3 a b p = -1 ↔ p = 0) ∧ part3 a b p ≤ b - b / 100 := by
  obtain ⟨g1, g2, g3, g4, g5, g6⟩ := chk3_0 h
  unfold part3
  rw [if_pos h]
  by_cases hp : p = 0
  · rw [if_pos hp]; refine ⟨by omega, by omega, by simp [hp], by omega⟩
  · rw [if_neg hp]
    have h0 : 0 ≤ b * p := Int.mul_nonneg (by omega) g5
    have h1 : b * p ≤ b * 99 := mul_le b b p 99 (by omega) g5 (Int.le_refl _) g6
    refine ⟨by omega, by omega, ⟨fun h => by omega, fun h => absurd h hp⟩, by omega⟩

set_option maxRecDepth 100000 in
set_option maxHeartbeats 8000000 in
theorem holds_bad (a b p : Int) (s : Nat) (t : Bool) (m n q : Int) (W : World) (he : EnvG W) (hb : InB a b p s) (h : chk3 a b p ≠ 0) :
    Calls Tryd.prog 7 #[.agg #[.int .i64 a, .int .i64 b, .int .i64 p, .int .u64 s, .bool t], .int .i64 m, .int .i64 n, .int .i64 q] W fun e W' => e = .returned (.bool true) ∧ Below W.heap.size W W' := by
  have k1 : Box _ := ⟨fun w => (rcheck_any a b p s t w).mono (R' := fun e w' => e = .returned (.int .i64 (chk3 a b p)) ∧ Ext w w') (fun e w' ⟨h1, h2⟩ => ⟨h1, h2 ▸ Ext.alloc (Below.refl _ _) _⟩)⟩
  have c3 : Box (∀ w1, Ext W w1 → _) := ⟨fun w1 h => known_any w1 (he.ext h)⟩
  have hx := Ext.alloc (Below.refl W.heap.size W) (.cells #[.int .i64 a, .int .i64 b, .int .i64 p, .int .u64 s, .bool t] 24)
  have h1 : (chk3 a b p == 0) = false := by rw [beq_eq_false_iff_ne]; exact h
  have h2 : (chk3 a b p != 0) = true := by rw [bne_iff_ne]; exact h
  generalize chk3 a b p = k at *
  clear h he hb
  go_enter Tryd.func7, Tryd.ntmps7
  go_wp2_with (first
    | (go_at_call 8; (with_reducible refine (k1.out _).mono ?_); rintro e w1 ⟨rfl, hb⟩; have hx := Ext.trans' hx hb)
    | (go_at_call 13; (with_reducible refine (c3.out _ hx).mono ?_); rintro e w1 ⟨rfl, hb⟩; have hx := Ext.trans' hx hb))
  go_ret
  exact ⟨rfl, hx⟩

/-- What is known of a valid configuration, and of the two others. -/
structure Facts (a b p : Int) (s : Nat) (t : Bool) (m n q : Int) (W : World) (tx : ByteArray) (x : Int) : Prop where
  k1 : Box (∀ w, Calls Tryd.prog 8 #[.agg #[.int .i64 a, .int .i64 b, .int .i64 p, .int .u64 s, .bool t]] w fun e w' => e = .returned (.int .i64 0) ∧ Ext w w')
  k2 : Box (∀ w, Ext W w → Calls Tryd.prog 20 #[.agg #[.int .i64 a, .int .i64 b, .int .i64 p, .int .u64 s, .bool t]] w fun e w' => e = .returned (.tuple #[.string tx, .int .i64 0]) ∧ Ext w w')
  k3 : Box (∀ w, Ext W w → Calls Tryd.prog 17 #[.string tx, .agg #[.int .i64 a, .int .i64 b, .int .i64 p, .int .u64 s, .bool t], .int .i64 0] w fun e w' => e = .returned (.bool true) ∧ Ext w w')
  k4 : Box (∀ w, Calls Tryd.prog 19 #[.agg #[.int .i64 a, .int .i64 b, .int .i64 p, .int .u64 s, .bool t], .int .i64 a, .int .i64 b, .agg #[.int .i64 a, .int .i64 b, .int .i64 p, .int .u64 s, .bool t], .int .i64 0] w fun e w' => e = .returned (.bool true) ∧ Ext w w')
  k5 : Box (∀ w, Calls Tryd.prog 21 #[.agg #[.int .i64 a, .int .i64 b, .int .i64 p, .int .u64 s, .bool t]] w fun e w' => e = .returned (.tuple #[.int .i64 x, .int .i64 0]) ∧ Ext w w')
  f1 : decide (b ≤ x) = false
  f2 : (x == -1) = (p == 0)
  f3 : decide (b - b / 100 < x) = false
  b0 : 1 ≤ b ∧ b ≤ 1099511627776 ∧ 0 ≤ p ∧ p ≤ 99
  ck : Box (∀ w, Ext W w → Calls Tryd.prog 13 #[] w fun e w' => e = .returned (.bool true) ∧ Ext w w')
theorem facts (a b p : Int) (s : Nat) (t : Bool) (m n q : Int) (W : World) (he : EnvG W) (hb : InB a b p s) (h : chk3 a b p = 0) : Facts a b p s t m n q W ⟨(textC ⟨a, b, p, s, t⟩).toArray⟩ (part3 a b p) := by
  have hl := part_lo a b p h
  obtain ⟨g1, g2, g3, g4, g5, g6⟩ := chk3_0 h
  have hsz : (⟨(textC ⟨a, b, p, s, t⟩).toArray⟩ : ByteArray).size ≤ 1000000 := by
    have e1 := itoa_len a hb.2.1.1 hb.2.1.2
    have e2 := itoa_len b hb.2.2.1.1 hb.2.2.1.2
    have e3 := itoa_len p hb.2.2.2.1 hb.2.2.2.2
    have e4 := dd_len20 s hb.1
    show (textC ⟨a, b, p, s, t⟩).toArray.size ≤ _
    rw [List.size_toArray]
    unfold textC
    cases t <;> simp [wCount, wBytes, wProt, wSeed, wSame, wYes, wNo] <;> omega
  have hpt := parse_text ⟨a, b, p, s, t⟩ h (by unfold never; have := hb.1; simp only; omega)
  refine ⟨⟨fun w => ?_⟩, ⟨fun w hw => ?_⟩, ⟨fun w hw => ?_⟩, ⟨fun w => ?_⟩, ⟨fun w => ?_⟩, decide_eq_false (by omega), ?_, decide_eq_false (by omega), ⟨g3, g4, g5, g6⟩, ⟨fun w hw => known_any w (he.ext hw)⟩⟩
  · have := rcheck_any a b p s t w
    rw [h] at this
    exact this.mono (fun e w' ⟨h1, h2⟩ => ⟨h1, h2 ▸ Ext.alloc (Below.refl _ _) _⟩)
  · have := gText_any a b p s t w hb (he.ext hw)
    rw [h] at this
    unfold txt5 at this
    rw [if_pos h] at this
    exact this
  · exact parses_yes _ _ 0 w hsz (he.ext hw) (by show _ = pcV (parseC (textC ⟨a, b, p, s, t⟩)); rw [hpt]; rfl) (by show _ = pcE (parseC (textC ⟨a, b, p, s, t⟩)); rw [hpt]; rfl)
  · exact resizes_yes a b p s t a b _ 0 w (by unfold rz3; rw [if_pos ⟨h, h⟩]) (by unfold rze; rw [if_pos h, h])
  · have := gpart_any a b p s t w
    rw [h] at this
    exact this
  · rw [Bool.eq_iff_iff, beq_iff_eq, beq_iff_eq]; exact hl.2.2.1

set_option maxRecDepth 100000 in
set_option maxHeartbeats 8000000 in
theorem holds_A0 (a b p : Int) (s : Nat) (t : Bool) (m n q : Int) (W : World) (he : EnvG W) (hb : InB a b p s) (h : chk3 a b p = 0) (g : chk3 m n p = 0) (hp : p < 1) :
    Calls Tryd.prog 7 #[.agg #[.int .i64 a, .int .i64 b, .int .i64 p, .int .u64 s, .bool t], .int .i64 m, .int .i64 n, .int .i64 q] W fun e W' => e = .returned (.bool true) ∧ Below W.heap.size W W' := by
  obtain ⟨k1, k2, k3, k4, k5, f1, f2, f3, ⟨b1, b2, b3, b4⟩, ck⟩ := facts a b p s t m n q W he hb h
  have r1 : Box _ := ⟨fun w => gresize_any a b p s t m n w⟩
  have er : rz3 a b p s t m n = .agg #[.int .i64 m, .int .i64 n, .int .i64 p, .int .u64 s, .bool t] := by unfold rz3; rw [if_pos ⟨h, g⟩]
  have ee : rze a b p m n = 0 := by unfold rze; rw [if_pos h, g]
  rw [er, ee] at r1
  have r2 : Box _ := ⟨fun w => gpart_any m n p s t w⟩
  rw [g] at r2
  have r3 : Box _ := ⟨fun w => resizes_yes m n p s t a b (.agg #[.int .i64 a, .int .i64 b, .int .i64 p, .int .u64 s, .bool t]) 0 w (by unfold rz3; rw [if_pos ⟨g, h⟩]) (by unfold rze; rw [if_pos g, h])⟩
  have hmo : b ≤ n → part3 a b p ≤ part3 m n p := fun hn => part_mono a b p m n p h g hn (Int.le_refl _) (fun h => h)
  have hmo2 : decide (b ≤ n) = false ∨ decide (b ≤ n) = true ∧ decide (part3 m n p < part3 a b p) = false := by
    by_cases hn : b ≤ n
    · exact Or.inr ⟨decide_eq_true hn, decide_eq_false (by have := hmo hn; omega)⟩
    · exact Or.inl (decide_eq_false hn)
  clear hmo er ee
  have dp : decide (1 ≤ p) = false := decide_eq_false (by omega)
  generalize (⟨(textC ⟨a, b, p, s, t⟩).toArray⟩ : ByteArray) = tx at *
  generalize part3 a b p = x at *
  generalize part3 m n p = x2 at *
  clear he hb h g hp
  have hx := Ext.alloc (Below.refl W.heap.size W) (.cells #[.int .i64 a, .int .i64 b, .int .i64 p, .int .u64 s, .bool t] 24)
  have hC := newblk W (.cells #[.int .i64 a, .int .i64 b, .int .i64 p, .int .u64 s, .bool t] 24)
  obtain ⟨m0, m1, m2, m3, m4⟩ := blk5 hC
  have hlt := blk_lt hC
  rcases hmo2 with dn | ⟨dn, dn2⟩
  all_goals
    go_enter Tryd.func7, Tryd.ntmps7
    go_wp2_with (first
      | (go_at_call 8; (with_reducible refine (k1.out _).mono ?_); rintro e w1 ⟨rfl, hb⟩; have hx := Ext.trans' hx hb; have hC := Ext.blk hb hC; obtain ⟨m0, m1, m2, m3, m4⟩ := blk5 hC; have hlt := blk_lt hC)
      | (go_at_call 20; (with_reducible refine (k2.out _ hx).mono ?_); rintro e w1 ⟨rfl, hb⟩; have hx := Ext.trans' hx hb; have hC := Ext.blk hb hC; obtain ⟨m0, m1, m2, m3, m4⟩ := blk5 hC; have hlt := blk_lt hC)
      | (go_at_call 17; (with_reducible refine (k3.out _ hx).mono ?_); rintro e w1 ⟨rfl, hb⟩; have hx := Ext.trans' hx hb; have hC := Ext.blk hb hC; obtain ⟨m0, m1, m2, m3, m4⟩ := blk5 hC; have hlt := blk_lt hC)
      | (go_at_call 19; (with_reducible refine (k4.out _).mono ?_); rintro e w1 ⟨rfl, hb⟩; have hx := Ext.trans' hx hb; have hC := Ext.blk hb hC; obtain ⟨m0, m1, m2, m3, m4⟩ := blk5 hC; have hlt := blk_lt hC)
      | (go_at_call 21; (with_reducible refine (k5.out _).mono ?_); rintro e w1 ⟨rfl, hb⟩; have hx := Ext.trans' hx hb; have hC := Ext.blk hb hC; obtain ⟨m0, m1, m2, m3, m4⟩ := blk5 hC; have hlt := blk_lt hC)
      | (go_at_call 22; (with_reducible refine (r1.out _).mono ?_); rintro e w2 ⟨rfl, hb⟩; have hx := Ext.alloc (Ext.trans' hx hb) (.cells #[.int .i64 m, .int .i64 n, .int .i64 p, .int .u64 s, .bool t] 24); have hC := Ext.blk hb hC; obtain ⟨m0, m1, m2, m3, m4⟩ := blk5 hC; have hlt := blk_lt hC; have hC := Ext.blk (Ext.alloc (Below.refl _ w2) (.cells #[.int .i64 m, .int .i64 n, .int .i64 p, .int .u64 s, .bool t] 24)) hC)
      | (go_at_call 21; (with_reducible refine (r2.out _).mono ?_); rintro e w3 ⟨rfl, hb⟩; have hx := Ext.trans' hx hb; have hC := Ext.blk hb hC; obtain ⟨m0, m1, m2, m3, m4⟩ := blk5 hC; have hlt := blk_lt hC; have hD := Ext.blk hb (newblk _ _); obtain ⟨d0, d1, d2, d3, d4⟩ := blk5 hD; have hld := blk_lt hD)
      | (go_at_call 19; (with_reducible refine (r3.out _).mono ?_); rintro e w4 ⟨rfl, hb⟩; have hx := Ext.trans' hx hb; have hC := Ext.blk hb hC; obtain ⟨m0, m1, m2, m3, m4⟩ := blk5 hC; have hlt := blk_lt hC)
      | (go_at_call 13; (with_reducible refine (ck.out _ hx).mono ?_); rintro e w7 ⟨rfl, hb⟩; have hx := Ext.trans' hx hb)
      | (go_at_call 13; (with_reducible refine (ck.out _ (Ext.alloc hx _)).mono ?_); rintro e w7 ⟨rfl, hb⟩; have hx := Ext.trans' (Ext.alloc hx _) hb))
    go_ret
    exact ⟨rfl, hx⟩

set_option maxRecDepth 100000 in
set_option maxHeartbeats 8000000 in
theorem holds_A1 (a b p : Int) (s : Nat) (t : Bool) (m n q : Int) (W : World) (he : EnvG W) (hb : InB a b p s) (h : chk3 a b p = 0) (g : chk3 m n p = 0) (hp : 1 ≤ p) (hk : chk3 a b q ≠ 0) :
    Calls Tryd.prog 7 #[.agg #[.int .i64 a, .int .i64 b, .int .i64 p, .int .u64 s, .bool t], .int .i64 m, .int .i64 n, .int .i64 q] W fun e W' => e = .returned (.bool true) ∧ Below W.heap.size W W' := by
  obtain ⟨k1, k2, k3, k4, k5, f1, f2, f3, ⟨b1, b2, b3, b4⟩, ck⟩ := facts a b p s t m n q W he hb h
  have r1 : Box _ := ⟨fun w => gresize_any a b p s t m n w⟩
  have er : rz3 a b p s t m n = .agg #[.int .i64 m, .int .i64 n, .int .i64 p, .int .u64 s, .bool t] := by unfold rz3; rw [if_pos ⟨h, g⟩]
  have ee : rze a b p m n = 0 := by unfold rze; rw [if_pos h, g]
  rw [er, ee] at r1
  have r2 : Box _ := ⟨fun w => gpart_any m n p s t w⟩
  rw [g] at r2
  have r3 : Box _ := ⟨fun w => resizes_yes m n p s t a b (.agg #[.int .i64 a, .int .i64 b, .int .i64 p, .int .u64 s, .bool t]) 0 w (by unfold rz3; rw [if_pos ⟨g, h⟩]) (by unfold rze; rw [if_pos g, h])⟩
  have hmo : b ≤ n → part3 a b p ≤ part3 m n p := fun hn => part_mono a b p m n p h g hn (Int.le_refl _) (fun h => h)
  have hmo2 : decide (b ≤ n) = false ∨ decide (b ≤ n) = true ∧ decide (part3 m n p < part3 a b p) = false := by
    by_cases hn : b ≤ n
    · exact Or.inr ⟨decide_eq_true hn, decide_eq_false (by have := hmo hn; omega)⟩
    · exact Or.inl (decide_eq_false hn)
  clear hmo er ee
  have dp : decide (1 ≤ p) = true := decide_eq_true hp
  have kM : Box _ := ⟨fun w => (rcheck_any a b q s t w).mono (R' := fun e w' => e = .returned (.int .i64 (chk3 a b q)) ∧ Ext w w') (fun e w' ⟨h1, h2⟩ => ⟨h1, h2 ▸ Ext.alloc (Below.refl _ _) _⟩)⟩
  have e2 : (chk3 a b q == 0) = false := by rw [beq_eq_false_iff_ne]; exact hk
  generalize chk3 a b q = z at *
  clear hk
  generalize (⟨(textC ⟨a, b, p, s, t⟩).toArray⟩ : ByteArray) = tx at *
  generalize part3 a b p = x at *
  generalize part3 m n p = x2 at *
  clear he hb h g hp
  have hx := Ext.alloc (Below.refl W.heap.size W) (.cells #[.int .i64 a, .int .i64 b, .int .i64 p, .int .u64 s, .bool t] 24)
  have hC := newblk W (.cells #[.int .i64 a, .int .i64 b, .int .i64 p, .int .u64 s, .bool t] 24)
  obtain ⟨m0, m1, m2, m3, m4⟩ := blk5 hC
  have hlt := blk_lt hC
  rcases hmo2 with dn | ⟨dn, dn2⟩
  all_goals
    go_enter Tryd.func7, Tryd.ntmps7
    go_wp2_with (first
      | (go_at_call 8; (with_reducible refine (k1.out _).mono ?_); rintro e w1 ⟨rfl, hb⟩; have hx := Ext.trans' hx hb; have hC := Ext.blk hb hC; obtain ⟨m0, m1, m2, m3, m4⟩ := blk5 hC; have hlt := blk_lt hC)
      | (go_at_call 20; (with_reducible refine (k2.out _ hx).mono ?_); rintro e w1 ⟨rfl, hb⟩; have hx := Ext.trans' hx hb; have hC := Ext.blk hb hC; obtain ⟨m0, m1, m2, m3, m4⟩ := blk5 hC; have hlt := blk_lt hC)
      | (go_at_call 17; (with_reducible refine (k3.out _ hx).mono ?_); rintro e w1 ⟨rfl, hb⟩; have hx := Ext.trans' hx hb; have hC := Ext.blk hb hC; obtain ⟨m0, m1, m2, m3, m4⟩ := blk5 hC; have hlt := blk_lt hC)
      | (go_at_call 19; (with_reducible refine (k4.out _).mono ?_); rintro e w1 ⟨rfl, hb⟩; have hx := Ext.trans' hx hb; have hC := Ext.blk hb hC; obtain ⟨m0, m1, m2, m3, m4⟩ := blk5 hC; have hlt := blk_lt hC)
      | (go_at_call 21; (with_reducible refine (k5.out _).mono ?_); rintro e w1 ⟨rfl, hb⟩; have hx := Ext.trans' hx hb; have hC := Ext.blk hb hC; obtain ⟨m0, m1, m2, m3, m4⟩ := blk5 hC; have hlt := blk_lt hC)
      | (go_at_call 22; (with_reducible refine (r1.out _).mono ?_); rintro e w2 ⟨rfl, hb⟩; have hx := Ext.alloc (Ext.trans' hx hb) (.cells #[.int .i64 m, .int .i64 n, .int .i64 p, .int .u64 s, .bool t] 24); have hC := Ext.blk hb hC; obtain ⟨m0, m1, m2, m3, m4⟩ := blk5 hC; have hlt := blk_lt hC; have hC := Ext.blk (Ext.alloc (Below.refl _ w2) (.cells #[.int .i64 m, .int .i64 n, .int .i64 p, .int .u64 s, .bool t] 24)) hC)
      | (go_at_call 21; (with_reducible refine (r2.out _).mono ?_); rintro e w3 ⟨rfl, hb⟩; have hx := Ext.trans' hx hb; have hC := Ext.blk hb hC; obtain ⟨m0, m1, m2, m3, m4⟩ := blk5 hC; have hlt := blk_lt hC; have hD := Ext.blk hb (newblk _ _); obtain ⟨d0, d1, d2, d3, d4⟩ := blk5 hD; have hld := blk_lt hD)
      | (go_at_call 19; (with_reducible refine (r3.out _).mono ?_); rintro e w4 ⟨rfl, hb⟩; have hx := Ext.trans' hx hb; have hC := Ext.blk hb hC; obtain ⟨m0, m1, m2, m3, m4⟩ := blk5 hC; have hlt := blk_lt hC)
      | (go_at_call 8; (with_reducible refine (kM.out _).mono ?_); rintro e w5 ⟨rfl, hb⟩; have hx := Ext.trans' (Ext.alloc hx _) hb; have hC := Ext.blk (Ext.trans' (Ext.alloc (Below.refl _ _) _) hb) hC; obtain ⟨m0, m1, m2, m3, m4⟩ := blk5 hC; have hlt := blk_lt hC; have hM := Ext.blk hb (newblk _ _); (try simp only [World.size_alloc] at hM); obtain ⟨n0, n1, n2, n3, n4⟩ := blk5 hM; have hlm := blk_lt hM)
      | (go_at_call 13; (with_reducible refine (ck.out _ hx).mono ?_); rintro e w7 ⟨rfl, hb⟩; have hx := Ext.trans' hx hb)
      | (go_at_call 13; (with_reducible refine (ck.out _ (Ext.alloc hx _)).mono ?_); rintro e w7 ⟨rfl, hb⟩; have hx := Ext.trans' (Ext.alloc hx _) hb))
    go_ret
    exact ⟨rfl, hx⟩

set_option maxRecDepth 100000 in
set_option maxHeartbeats 8000000 in
theorem holds_A2 (a b p : Int) (s : Nat) (t : Bool) (m n q : Int) (W : World) (he : EnvG W) (hb : InB a b p s) (h : chk3 a b p = 0) (g : chk3 m n p = 0) (hp : 1 ≤ p) (hk : chk3 a b q = 0) (hq : q < p) :
    Calls Tryd.prog 7 #[.agg #[.int .i64 a, .int .i64 b, .int .i64 p, .int .u64 s, .bool t], .int .i64 m, .int .i64 n, .int .i64 q] W fun e W' => e = .returned (.bool true) ∧ Below W.heap.size W W' := by
  obtain ⟨k1, k2, k3, k4, k5, f1, f2, f3, ⟨b1, b2, b3, b4⟩, ck⟩ := facts a b p s t m n q W he hb h
  have r1 : Box _ := ⟨fun w => gresize_any a b p s t m n w⟩
  have er : rz3 a b p s t m n = .agg #[.int .i64 m, .int .i64 n, .int .i64 p, .int .u64 s, .bool t] := by unfold rz3; rw [if_pos ⟨h, g⟩]
  have ee : rze a b p m n = 0 := by unfold rze; rw [if_pos h, g]
  rw [er, ee] at r1
  have r2 : Box _ := ⟨fun w => gpart_any m n p s t w⟩
  rw [g] at r2
  have r3 : Box _ := ⟨fun w => resizes_yes m n p s t a b (.agg #[.int .i64 a, .int .i64 b, .int .i64 p, .int .u64 s, .bool t]) 0 w (by unfold rz3; rw [if_pos ⟨g, h⟩]) (by unfold rze; rw [if_pos g, h])⟩
  have hmo : b ≤ n → part3 a b p ≤ part3 m n p := fun hn => part_mono a b p m n p h g hn (Int.le_refl _) (fun h => h)
  have hmo2 : decide (b ≤ n) = false ∨ decide (b ≤ n) = true ∧ decide (part3 m n p < part3 a b p) = false := by
    by_cases hn : b ≤ n
    · exact Or.inr ⟨decide_eq_true hn, decide_eq_false (by have := hmo hn; omega)⟩
    · exact Or.inl (decide_eq_false hn)
  clear hmo er ee
  have dp : decide (1 ≤ p) = true := decide_eq_true hp
  have kM : Box _ := ⟨fun w => (rcheck_any a b q s t w).mono (R' := fun e w' => e = .returned (.int .i64 (chk3 a b q)) ∧ Ext w w') (fun e w' ⟨h1, h2⟩ => ⟨h1, h2 ▸ Ext.alloc (Below.refl _ _) _⟩)⟩
  have kP : Box _ := ⟨fun w => gpart_any a b q s t w⟩
  rw [hk] at kM kP
  have dq : decide (p ≤ q) = false := decide_eq_false (by omega)
  generalize (⟨(textC ⟨a, b, p, s, t⟩).toArray⟩ : ByteArray) = tx at *
  generalize part3 a b p = x at *
  generalize part3 m n p = x2 at *
  generalize part3 a b q = x3 at *
  clear he hb h g hp hk hq
  have hx := Ext.alloc (Below.refl W.heap.size W) (.cells #[.int .i64 a, .int .i64 b, .int .i64 p, .int .u64 s, .bool t] 24)
  have hC := newblk W (.cells #[.int .i64 a, .int .i64 b, .int .i64 p, .int .u64 s, .bool t] 24)
  obtain ⟨m0, m1, m2, m3, m4⟩ := blk5 hC
  have hlt := blk_lt hC
  rcases hmo2 with dn | ⟨dn, dn2⟩
  all_goals
    go_enter Tryd.func7, Tryd.ntmps7
    go_wp2_with (first
      | (go_at_call 8; (with_reducible refine (k1.out _).mono ?_); rintro e w1 ⟨rfl, hb⟩; have hx := Ext.trans' hx hb; have hC := Ext.blk hb hC; obtain ⟨m0, m1, m2, m3, m4⟩ := blk5 hC; have hlt := blk_lt hC)
      | (go_at_call 20; (with_reducible refine (k2.out _ hx).mono ?_); rintro e w1 ⟨rfl, hb⟩; have hx := Ext.trans' hx hb; have hC := Ext.blk hb hC; obtain ⟨m0, m1, m2, m3, m4⟩ := blk5 hC; have hlt := blk_lt hC)
      | (go_at_call 17; (with_reducible refine (k3.out _ hx).mono ?_); rintro e w1 ⟨rfl, hb⟩; have hx := Ext.trans' hx hb; have hC := Ext.blk hb hC; obtain ⟨m0, m1, m2, m3, m4⟩ := blk5 hC; have hlt := blk_lt hC)
      | (go_at_call 19; (with_reducible refine (k4.out _).mono ?_); rintro e w1 ⟨rfl, hb⟩; have hx := Ext.trans' hx hb; have hC := Ext.blk hb hC; obtain ⟨m0, m1, m2, m3, m4⟩ := blk5 hC; have hlt := blk_lt hC)
      | (go_at_call 21; (with_reducible refine (k5.out _).mono ?_); rintro e w1 ⟨rfl, hb⟩; have hx := Ext.trans' hx hb; have hC := Ext.blk hb hC; obtain ⟨m0, m1, m2, m3, m4⟩ := blk5 hC; have hlt := blk_lt hC)
      | (go_at_call 22; (with_reducible refine (r1.out _).mono ?_); rintro e w2 ⟨rfl, hb⟩; have hx := Ext.alloc (Ext.trans' hx hb) (.cells #[.int .i64 m, .int .i64 n, .int .i64 p, .int .u64 s, .bool t] 24); have hC := Ext.blk hb hC; obtain ⟨m0, m1, m2, m3, m4⟩ := blk5 hC; have hlt := blk_lt hC; have hC := Ext.blk (Ext.alloc (Below.refl _ w2) (.cells #[.int .i64 m, .int .i64 n, .int .i64 p, .int .u64 s, .bool t] 24)) hC)
      | (go_at_call 21; (with_reducible refine (r2.out _).mono ?_); rintro e w3 ⟨rfl, hb⟩; have hx := Ext.trans' hx hb; have hC := Ext.blk hb hC; obtain ⟨m0, m1, m2, m3, m4⟩ := blk5 hC; have hlt := blk_lt hC; have hD := Ext.blk hb (newblk _ _); obtain ⟨d0, d1, d2, d3, d4⟩ := blk5 hD; have hld := blk_lt hD)
      | (go_at_call 19; (with_reducible refine (r3.out _).mono ?_); rintro e w4 ⟨rfl, hb⟩; have hx := Ext.trans' hx hb; have hC := Ext.blk hb hC; obtain ⟨m0, m1, m2, m3, m4⟩ := blk5 hC; have hlt := blk_lt hC)
      | (go_at_call 8; (with_reducible refine (kM.out _).mono ?_); rintro e w5 ⟨rfl, hb⟩; have hx := Ext.trans' (Ext.alloc hx _) hb; have hC := Ext.blk (Ext.trans' (Ext.alloc (Below.refl _ _) _) hb) hC; obtain ⟨m0, m1, m2, m3, m4⟩ := blk5 hC; have hlt := blk_lt hC; have hM := Ext.blk hb (newblk _ _); (try simp only [World.size_alloc] at hM); obtain ⟨n0, n1, n2, n3, n4⟩ := blk5 hM; have hlm := blk_lt hM)
      | (go_at_call 13; (with_reducible refine (ck.out _ hx).mono ?_); rintro e w7 ⟨rfl, hb⟩; have hx := Ext.trans' hx hb)
      | (go_at_call 13; (with_reducible refine (ck.out _ (Ext.alloc hx _)).mono ?_); rintro e w7 ⟨rfl, hb⟩; have hx := Ext.trans' (Ext.alloc hx _) hb))
    go_ret
    exact ⟨rfl, hx⟩

set_option maxRecDepth 100000 in
set_option maxHeartbeats 8000000 in
theorem holds_A3 (a b p : Int) (s : Nat) (t : Bool) (m n q : Int) (W : World) (he : EnvG W) (hb : InB a b p s) (h : chk3 a b p = 0) (g : chk3 m n p = 0) (hp : 1 ≤ p) (hk : chk3 a b q = 0) (hq : p ≤ q) :
    Calls Tryd.prog 7 #[.agg #[.int .i64 a, .int .i64 b, .int .i64 p, .int .u64 s, .bool t], .int .i64 m, .int .i64 n, .int .i64 q] W fun e W' => e = .returned (.bool true) ∧ Below W.heap.size W W' := by
  obtain ⟨k1, k2, k3, k4, k5, f1, f2, f3, ⟨b1, b2, b3, b4⟩, ck⟩ := facts a b p s t m n q W he hb h
  have r1 : Box _ := ⟨fun w => gresize_any a b p s t m n w⟩
  have er : rz3 a b p s t m n = .agg #[.int .i64 m, .int .i64 n, .int .i64 p, .int .u64 s, .bool t] := by unfold rz3; rw [if_pos ⟨h, g⟩]
  have ee : rze a b p m n = 0 := by unfold rze; rw [if_pos h, g]
  rw [er, ee] at r1
  have r2 : Box _ := ⟨fun w => gpart_any m n p s t w⟩
  rw [g] at r2
  have r3 : Box _ := ⟨fun w => resizes_yes m n p s t a b (.agg #[.int .i64 a, .int .i64 b, .int .i64 p, .int .u64 s, .bool t]) 0 w (by unfold rz3; rw [if_pos ⟨g, h⟩]) (by unfold rze; rw [if_pos g, h])⟩
  have hmo : b ≤ n → part3 a b p ≤ part3 m n p := fun hn => part_mono a b p m n p h g hn (Int.le_refl _) (fun h => h)
  have hmo2 : decide (b ≤ n) = false ∨ decide (b ≤ n) = true ∧ decide (part3 m n p < part3 a b p) = false := by
    by_cases hn : b ≤ n
    · exact Or.inr ⟨decide_eq_true hn, decide_eq_false (by have := hmo hn; omega)⟩
    · exact Or.inl (decide_eq_false hn)
  clear hmo er ee
  have dp : decide (1 ≤ p) = true := decide_eq_true hp
  have kM : Box _ := ⟨fun w => (rcheck_any a b q s t w).mono (R' := fun e w' => e = .returned (.int .i64 (chk3 a b q)) ∧ Ext w w') (fun e w' ⟨h1, h2⟩ => ⟨h1, h2 ▸ Ext.alloc (Below.refl _ _) _⟩)⟩
  have kP : Box _ := ⟨fun w => gpart_any a b q s t w⟩
  rw [hk] at kM kP
  have dq : decide (p ≤ q) = true := decide_eq_true hq
  have dm : decide (part3 a b q < part3 a b p) = false := decide_eq_false (by have := part_mono a b p a b q h hk (Int.le_refl _) hq (fun h => by omega); omega)
  generalize (⟨(textC ⟨a, b, p, s, t⟩).toArray⟩ : ByteArray) = tx at *
  generalize part3 a b p = x at *
  generalize part3 m n p = x2 at *
  generalize part3 a b q = x3 at *
  clear he hb h g hp hk hq
  have hx := Ext.alloc (Below.refl W.heap.size W) (.cells #[.int .i64 a, .int .i64 b, .int .i64 p, .int .u64 s, .bool t] 24)
  have hC := newblk W (.cells #[.int .i64 a, .int .i64 b, .int .i64 p, .int .u64 s, .bool t] 24)
  obtain ⟨m0, m1, m2, m3, m4⟩ := blk5 hC
  have hlt := blk_lt hC
  rcases hmo2 with dn | ⟨dn, dn2⟩
  all_goals
    go_enter Tryd.func7, Tryd.ntmps7
    go_wp2_with (first
      | (go_at_call 8; (with_reducible refine (k1.out _).mono ?_); rintro e w1 ⟨rfl, hb⟩; have hx := Ext.trans' hx hb; have hC := Ext.blk hb hC; obtain ⟨m0, m1, m2, m3, m4⟩ := blk5 hC; have hlt := blk_lt hC)
      | (go_at_call 20; (with_reducible refine (k2.out _ hx).mono ?_); rintro e w1 ⟨rfl, hb⟩; have hx := Ext.trans' hx hb; have hC := Ext.blk hb hC; obtain ⟨m0, m1, m2, m3, m4⟩ := blk5 hC; have hlt := blk_lt hC)
      | (go_at_call 17; (with_reducible refine (k3.out _ hx).mono ?_); rintro e w1 ⟨rfl, hb⟩; have hx := Ext.trans' hx hb; have hC := Ext.blk hb hC; obtain ⟨m0, m1, m2, m3, m4⟩ := blk5 hC; have hlt := blk_lt hC)
      | (go_at_call 19; (with_reducible refine (k4.out _).mono ?_); rintro e w1 ⟨rfl, hb⟩; have hx := Ext.trans' hx hb; have hC := Ext.blk hb hC; obtain ⟨m0, m1, m2, m3, m4⟩ := blk5 hC; have hlt := blk_lt hC)
      | (go_at_call 21; (with_reducible refine (k5.out _).mono ?_); rintro e w1 ⟨rfl, hb⟩; have hx := Ext.trans' hx hb; have hC := Ext.blk hb hC; obtain ⟨m0, m1, m2, m3, m4⟩ := blk5 hC; have hlt := blk_lt hC)
      | (go_at_call 22; (with_reducible refine (r1.out _).mono ?_); rintro e w2 ⟨rfl, hb⟩; have hx := Ext.alloc (Ext.trans' hx hb) (.cells #[.int .i64 m, .int .i64 n, .int .i64 p, .int .u64 s, .bool t] 24); have hC := Ext.blk hb hC; obtain ⟨m0, m1, m2, m3, m4⟩ := blk5 hC; have hlt := blk_lt hC; have hC := Ext.blk (Ext.alloc (Below.refl _ w2) (.cells #[.int .i64 m, .int .i64 n, .int .i64 p, .int .u64 s, .bool t] 24)) hC)
      | (go_at_call 21; (with_reducible refine (r2.out _).mono ?_); rintro e w3 ⟨rfl, hb⟩; have hx := Ext.trans' hx hb; have hC := Ext.blk hb hC; obtain ⟨m0, m1, m2, m3, m4⟩ := blk5 hC; have hlt := blk_lt hC; have hD := Ext.blk hb (newblk _ _); obtain ⟨d0, d1, d2, d3, d4⟩ := blk5 hD; have hld := blk_lt hD)
      | (go_at_call 19; (with_reducible refine (r3.out _).mono ?_); rintro e w4 ⟨rfl, hb⟩; have hx := Ext.trans' hx hb; have hC := Ext.blk hb hC; obtain ⟨m0, m1, m2, m3, m4⟩ := blk5 hC; have hlt := blk_lt hC)
      | (go_at_call 8; (with_reducible refine (kM.out _).mono ?_); rintro e w5 ⟨rfl, hb⟩; have hx := Ext.trans' (Ext.alloc hx _) hb; have hC := Ext.blk (Ext.trans' (Ext.alloc (Below.refl _ _) _) hb) hC; obtain ⟨m0, m1, m2, m3, m4⟩ := blk5 hC; have hlt := blk_lt hC; have hM := Ext.blk hb (newblk _ _); (try simp only [World.size_alloc] at hM); obtain ⟨n0, n1, n2, n3, n4⟩ := blk5 hM; have hlm := blk_lt hM)
      | (go_at_call 21; (with_reducible refine (kP.out _).mono ?_); rintro e w6 ⟨rfl, hb⟩; have hx := Ext.trans' hx hb)
      | (go_at_call 13; (with_reducible refine (ck.out _ hx).mono ?_); rintro e w7 ⟨rfl, hb⟩; have hx := Ext.trans' hx hb)
      | (go_at_call 13; (with_reducible refine (ck.out _ (Ext.alloc hx _)).mono ?_); rintro e w7 ⟨rfl, hb⟩; have hx := Ext.trans' (Ext.alloc hx _) hb))
    go_ret
    exact ⟨rfl, hx⟩

set_option maxRecDepth 100000 in
set_option maxHeartbeats 8000000 in
theorem holds_B0 (a b p : Int) (s : Nat) (t : Bool) (m n q : Int) (W : World) (he : EnvG W) (hb : InB a b p s) (h : chk3 a b p = 0) (g : chk3 m n p ≠ 0) (hp : p < 1) :
    Calls Tryd.prog 7 #[.agg #[.int .i64 a, .int .i64 b, .int .i64 p, .int .u64 s, .bool t], .int .i64 m, .int .i64 n, .int .i64 q] W fun e W' => e = .returned (.bool true) ∧ Below W.heap.size W W' := by
  obtain ⟨k1, k2, k3, k4, k5, f1, f2, f3, ⟨b1, b2, b3, b4⟩, ck⟩ := facts a b p s t m n q W he hb h
  have r1 : Box _ := ⟨fun w => gresize_any a b p s t m n w⟩
  have er : rz3 a b p s t m n = .agg #[.int .i64 0, .int .i64 0, .int .i64 0, .int .u64 0, .bool false] := by unfold rz3; rw [if_neg (fun x => g x.2)]
  have ee : rze a b p m n = chk3 m n p := by unfold rze; rw [if_pos h]
  rw [er, ee] at r1
  have e1 : (chk3 m n p == 0) = false := by rw [beq_eq_false_iff_ne]; exact g
  generalize chk3 m n p = y at *
  clear er ee g
  have dp : decide (1 ≤ p) = false := decide_eq_false (by omega)
  generalize (⟨(textC ⟨a, b, p, s, t⟩).toArray⟩ : ByteArray) = tx at *
  generalize part3 a b p = x at *
  clear he hb h hp
  have hx := Ext.alloc (Below.refl W.heap.size W) (.cells #[.int .i64 a, .int .i64 b, .int .i64 p, .int .u64 s, .bool t] 24)
  have hC := newblk W (.cells #[.int .i64 a, .int .i64 b, .int .i64 p, .int .u64 s, .bool t] 24)
  obtain ⟨m0, m1, m2, m3, m4⟩ := blk5 hC
  have hlt := blk_lt hC
  go_enter Tryd.func7, Tryd.ntmps7
  go_wp2_with (first
    | (go_at_call 8; (with_reducible refine (k1.out _).mono ?_); rintro e w1 ⟨rfl, hb⟩; have hx := Ext.trans' hx hb; have hC := Ext.blk hb hC; obtain ⟨m0, m1, m2, m3, m4⟩ := blk5 hC; have hlt := blk_lt hC)
    | (go_at_call 20; (with_reducible refine (k2.out _ hx).mono ?_); rintro e w1 ⟨rfl, hb⟩; have hx := Ext.trans' hx hb; have hC := Ext.blk hb hC; obtain ⟨m0, m1, m2, m3, m4⟩ := blk5 hC; have hlt := blk_lt hC)
    | (go_at_call 17; (with_reducible refine (k3.out _ hx).mono ?_); rintro e w1 ⟨rfl, hb⟩; have hx := Ext.trans' hx hb; have hC := Ext.blk hb hC; obtain ⟨m0, m1, m2, m3, m4⟩ := blk5 hC; have hlt := blk_lt hC)
    | (go_at_call 19; (with_reducible refine (k4.out _).mono ?_); rintro e w1 ⟨rfl, hb⟩; have hx := Ext.trans' hx hb; have hC := Ext.blk hb hC; obtain ⟨m0, m1, m2, m3, m4⟩ := blk5 hC; have hlt := blk_lt hC)
    | (go_at_call 21; (with_reducible refine (k5.out _).mono ?_); rintro e w1 ⟨rfl, hb⟩; have hx := Ext.trans' hx hb; have hC := Ext.blk hb hC; obtain ⟨m0, m1, m2, m3, m4⟩ := blk5 hC; have hlt := blk_lt hC)
    | (go_at_call 22; (with_reducible refine (r1.out _).mono ?_); rintro e w2 ⟨rfl, hb⟩; have hx := Ext.alloc (Ext.trans' hx hb) (.cells #[.int .i64 0, .int .i64 0, .int .i64 0, .int .u64 0, .bool false] 24); have hC := Ext.blk hb hC; obtain ⟨m0, m1, m2, m3, m4⟩ := blk5 hC; have hlt := blk_lt hC; have hC := Ext.blk (Ext.alloc (Below.refl _ w2) (.cells #[.int .i64 0, .int .i64 0, .int .i64 0, .int .u64 0, .bool false] 24)) hC)
    | (go_at_call 13; (with_reducible refine (ck.out _ hx).mono ?_); rintro e w7 ⟨rfl, hb⟩; have hx := Ext.trans' hx hb)
    | (go_at_call 13; (with_reducible refine (ck.out _ (Ext.alloc hx _)).mono ?_); rintro e w7 ⟨rfl, hb⟩; have hx := Ext.trans' (Ext.alloc hx _) hb))
  go_ret
  exact ⟨rfl, hx⟩

set_option maxRecDepth 100000 in
set_option maxHeartbeats 8000000 in
theorem holds_B1 (a b p : Int) (s : Nat) (t : Bool) (m n q : Int) (W : World) (he : EnvG W) (hb : InB a b p s) (h : chk3 a b p = 0) (g : chk3 m n p ≠ 0) (hp : 1 ≤ p) (hk : chk3 a b q ≠ 0) :
    Calls Tryd.prog 7 #[.agg #[.int .i64 a, .int .i64 b, .int .i64 p, .int .u64 s, .bool t], .int .i64 m, .int .i64 n, .int .i64 q] W fun e W' => e = .returned (.bool true) ∧ Below W.heap.size W W' := by
  obtain ⟨k1, k2, k3, k4, k5, f1, f2, f3, ⟨b1, b2, b3, b4⟩, ck⟩ := facts a b p s t m n q W he hb h
  have r1 : Box _ := ⟨fun w => gresize_any a b p s t m n w⟩
  have er : rz3 a b p s t m n = .agg #[.int .i64 0, .int .i64 0, .int .i64 0, .int .u64 0, .bool false] := by unfold rz3; rw [if_neg (fun x => g x.2)]
  have ee : rze a b p m n = chk3 m n p := by unfold rze; rw [if_pos h]
  rw [er, ee] at r1
  have e1 : (chk3 m n p == 0) = false := by rw [beq_eq_false_iff_ne]; exact g
  generalize chk3 m n p = y at *
  clear er ee g
  have dp : decide (1 ≤ p) = true := decide_eq_true hp
  have kM : Box _ := ⟨fun w => (rcheck_any a b q s t w).mono (R' := fun e w' => e = .returned (.int .i64 (chk3 a b q)) ∧ Ext w w') (fun e w' ⟨h1, h2⟩ => ⟨h1, h2 ▸ Ext.alloc (Below.refl _ _) _⟩)⟩
  have e2 : (chk3 a b q == 0) = false := by rw [beq_eq_false_iff_ne]; exact hk
  generalize chk3 a b q = z at *
  clear hk
  generalize (⟨(textC ⟨a, b, p, s, t⟩).toArray⟩ : ByteArray) = tx at *
  generalize part3 a b p = x at *
  clear he hb h hp
  have hx := Ext.alloc (Below.refl W.heap.size W) (.cells #[.int .i64 a, .int .i64 b, .int .i64 p, .int .u64 s, .bool t] 24)
  have hC := newblk W (.cells #[.int .i64 a, .int .i64 b, .int .i64 p, .int .u64 s, .bool t] 24)
  obtain ⟨m0, m1, m2, m3, m4⟩ := blk5 hC
  have hlt := blk_lt hC
  go_enter Tryd.func7, Tryd.ntmps7
  go_wp2_with (first
    | (go_at_call 8; (with_reducible refine (k1.out _).mono ?_); rintro e w1 ⟨rfl, hb⟩; have hx := Ext.trans' hx hb; have hC := Ext.blk hb hC; obtain ⟨m0, m1, m2, m3, m4⟩ := blk5 hC; have hlt := blk_lt hC)
    | (go_at_call 20; (with_reducible refine (k2.out _ hx).mono ?_); rintro e w1 ⟨rfl, hb⟩; have hx := Ext.trans' hx hb; have hC := Ext.blk hb hC; obtain ⟨m0, m1, m2, m3, m4⟩ := blk5 hC; have hlt := blk_lt hC)
    | (go_at_call 17; (with_reducible refine (k3.out _ hx).mono ?_); rintro e w1 ⟨rfl, hb⟩; have hx := Ext.trans' hx hb; have hC := Ext.blk hb hC; obtain ⟨m0, m1, m2, m3, m4⟩ := blk5 hC; have hlt := blk_lt hC)
    | (go_at_call 19; (with_reducible refine (k4.out _).mono ?_); rintro e w1 ⟨rfl, hb⟩; have hx := Ext.trans' hx hb; have hC := Ext.blk hb hC; obtain ⟨m0, m1, m2, m3, m4⟩ := blk5 hC; have hlt := blk_lt hC)
    | (go_at_call 21; (with_reducible refine (k5.out _).mono ?_); rintro e w1 ⟨rfl, hb⟩; have hx := Ext.trans' hx hb; have hC := Ext.blk hb hC; obtain ⟨m0, m1, m2, m3, m4⟩ := blk5 hC; have hlt := blk_lt hC)
    | (go_at_call 22; (with_reducible refine (r1.out _).mono ?_); rintro e w2 ⟨rfl, hb⟩; have hx := Ext.alloc (Ext.trans' hx hb) (.cells #[.int .i64 0, .int .i64 0, .int .i64 0, .int .u64 0, .bool false] 24); have hC := Ext.blk hb hC; obtain ⟨m0, m1, m2, m3, m4⟩ := blk5 hC; have hlt := blk_lt hC; have hC := Ext.blk (Ext.alloc (Below.refl _ w2) (.cells #[.int .i64 0, .int .i64 0, .int .i64 0, .int .u64 0, .bool false] 24)) hC)
    | (go_at_call 8; (with_reducible refine (kM.out _).mono ?_); rintro e w5 ⟨rfl, hb⟩; have hx := Ext.trans' (Ext.alloc hx _) hb; have hC := Ext.blk (Ext.trans' (Ext.alloc (Below.refl _ _) _) hb) hC; obtain ⟨m0, m1, m2, m3, m4⟩ := blk5 hC; have hlt := blk_lt hC; have hM := Ext.blk hb (newblk _ _); (try simp only [World.size_alloc] at hM); obtain ⟨n0, n1, n2, n3, n4⟩ := blk5 hM; have hlm := blk_lt hM)
    | (go_at_call 13; (with_reducible refine (ck.out _ hx).mono ?_); rintro e w7 ⟨rfl, hb⟩; have hx := Ext.trans' hx hb)
    | (go_at_call 13; (with_reducible refine (ck.out _ (Ext.alloc hx _)).mono ?_); rintro e w7 ⟨rfl, hb⟩; have hx := Ext.trans' (Ext.alloc hx _) hb))
  go_ret
  exact ⟨rfl, hx⟩

set_option maxRecDepth 100000 in
set_option maxHeartbeats 8000000 in
theorem holds_B2 (a b p : Int) (s : Nat) (t : Bool) (m n q : Int) (W : World) (he : EnvG W) (hb : InB a b p s) (h : chk3 a b p = 0) (g : chk3 m n p ≠ 0) (hp : 1 ≤ p) (hk : chk3 a b q = 0) (hq : q < p) :
    Calls Tryd.prog 7 #[.agg #[.int .i64 a, .int .i64 b, .int .i64 p, .int .u64 s, .bool t], .int .i64 m, .int .i64 n, .int .i64 q] W fun e W' => e = .returned (.bool true) ∧ Below W.heap.size W W' := by
  obtain ⟨k1, k2, k3, k4, k5, f1, f2, f3, ⟨b1, b2, b3, b4⟩, ck⟩ := facts a b p s t m n q W he hb h
  have r1 : Box _ := ⟨fun w => gresize_any a b p s t m n w⟩
  have er : rz3 a b p s t m n = .agg #[.int .i64 0, .int .i64 0, .int .i64 0, .int .u64 0, .bool false] := by unfold rz3; rw [if_neg (fun x => g x.2)]
  have ee : rze a b p m n = chk3 m n p := by unfold rze; rw [if_pos h]
  rw [er, ee] at r1
  have e1 : (chk3 m n p == 0) = false := by rw [beq_eq_false_iff_ne]; exact g
  generalize chk3 m n p = y at *
  clear er ee g
  have dp : decide (1 ≤ p) = true := decide_eq_true hp
  have kM : Box _ := ⟨fun w => (rcheck_any a b q s t w).mono (R' := fun e w' => e = .returned (.int .i64 (chk3 a b q)) ∧ Ext w w') (fun e w' ⟨h1, h2⟩ => ⟨h1, h2 ▸ Ext.alloc (Below.refl _ _) _⟩)⟩
  have kP : Box _ := ⟨fun w => gpart_any a b q s t w⟩
  rw [hk] at kM kP
  have dq : decide (p ≤ q) = false := decide_eq_false (by omega)
  generalize (⟨(textC ⟨a, b, p, s, t⟩).toArray⟩ : ByteArray) = tx at *
  generalize part3 a b p = x at *
  generalize part3 a b q = x3 at *
  clear he hb h hp hk hq
  have hx := Ext.alloc (Below.refl W.heap.size W) (.cells #[.int .i64 a, .int .i64 b, .int .i64 p, .int .u64 s, .bool t] 24)
  have hC := newblk W (.cells #[.int .i64 a, .int .i64 b, .int .i64 p, .int .u64 s, .bool t] 24)
  obtain ⟨m0, m1, m2, m3, m4⟩ := blk5 hC
  have hlt := blk_lt hC
  go_enter Tryd.func7, Tryd.ntmps7
  go_wp2_with (first
    | (go_at_call 8; (with_reducible refine (k1.out _).mono ?_); rintro e w1 ⟨rfl, hb⟩; have hx := Ext.trans' hx hb; have hC := Ext.blk hb hC; obtain ⟨m0, m1, m2, m3, m4⟩ := blk5 hC; have hlt := blk_lt hC)
    | (go_at_call 20; (with_reducible refine (k2.out _ hx).mono ?_); rintro e w1 ⟨rfl, hb⟩; have hx := Ext.trans' hx hb; have hC := Ext.blk hb hC; obtain ⟨m0, m1, m2, m3, m4⟩ := blk5 hC; have hlt := blk_lt hC)
    | (go_at_call 17; (with_reducible refine (k3.out _ hx).mono ?_); rintro e w1 ⟨rfl, hb⟩; have hx := Ext.trans' hx hb; have hC := Ext.blk hb hC; obtain ⟨m0, m1, m2, m3, m4⟩ := blk5 hC; have hlt := blk_lt hC)
    | (go_at_call 19; (with_reducible refine (k4.out _).mono ?_); rintro e w1 ⟨rfl, hb⟩; have hx := Ext.trans' hx hb; have hC := Ext.blk hb hC; obtain ⟨m0, m1, m2, m3, m4⟩ := blk5 hC; have hlt := blk_lt hC)
    | (go_at_call 21; (with_reducible refine (k5.out _).mono ?_); rintro e w1 ⟨rfl, hb⟩; have hx := Ext.trans' hx hb; have hC := Ext.blk hb hC; obtain ⟨m0, m1, m2, m3, m4⟩ := blk5 hC; have hlt := blk_lt hC)
    | (go_at_call 22; (with_reducible refine (r1.out _).mono ?_); rintro e w2 ⟨rfl, hb⟩; have hx := Ext.alloc (Ext.trans' hx hb) (.cells #[.int .i64 0, .int .i64 0, .int .i64 0, .int .u64 0, .bool false] 24); have hC := Ext.blk hb hC; obtain ⟨m0, m1, m2, m3, m4⟩ := blk5 hC; have hlt := blk_lt hC; have hC := Ext.blk (Ext.alloc (Below.refl _ w2) (.cells #[.int .i64 0, .int .i64 0, .int .i64 0, .int .u64 0, .bool false] 24)) hC)
    | (go_at_call 8; (with_reducible refine (kM.out _).mono ?_); rintro e w5 ⟨rfl, hb⟩; have hx := Ext.trans' (Ext.alloc hx _) hb; have hC := Ext.blk (Ext.trans' (Ext.alloc (Below.refl _ _) _) hb) hC; obtain ⟨m0, m1, m2, m3, m4⟩ := blk5 hC; have hlt := blk_lt hC; have hM := Ext.blk hb (newblk _ _); (try simp only [World.size_alloc] at hM); obtain ⟨n0, n1, n2, n3, n4⟩ := blk5 hM; have hlm := blk_lt hM)
    | (go_at_call 13; (with_reducible refine (ck.out _ hx).mono ?_); rintro e w7 ⟨rfl, hb⟩; have hx := Ext.trans' hx hb)
    | (go_at_call 13; (with_reducible refine (ck.out _ (Ext.alloc hx _)).mono ?_); rintro e w7 ⟨rfl, hb⟩; have hx := Ext.trans' (Ext.alloc hx _) hb))
  go_ret
  exact ⟨rfl, hx⟩

set_option maxRecDepth 100000 in
set_option maxHeartbeats 8000000 in
theorem holds_B3 (a b p : Int) (s : Nat) (t : Bool) (m n q : Int) (W : World) (he : EnvG W) (hb : InB a b p s) (h : chk3 a b p = 0) (g : chk3 m n p ≠ 0) (hp : 1 ≤ p) (hk : chk3 a b q = 0) (hq : p ≤ q) :
    Calls Tryd.prog 7 #[.agg #[.int .i64 a, .int .i64 b, .int .i64 p, .int .u64 s, .bool t], .int .i64 m, .int .i64 n, .int .i64 q] W fun e W' => e = .returned (.bool true) ∧ Below W.heap.size W W' := by
  obtain ⟨k1, k2, k3, k4, k5, f1, f2, f3, ⟨b1, b2, b3, b4⟩, ck⟩ := facts a b p s t m n q W he hb h
  have r1 : Box _ := ⟨fun w => gresize_any a b p s t m n w⟩
  have er : rz3 a b p s t m n = .agg #[.int .i64 0, .int .i64 0, .int .i64 0, .int .u64 0, .bool false] := by unfold rz3; rw [if_neg (fun x => g x.2)]
  have ee : rze a b p m n = chk3 m n p := by unfold rze; rw [if_pos h]
  rw [er, ee] at r1
  have e1 : (chk3 m n p == 0) = false := by rw [beq_eq_false_iff_ne]; exact g
  generalize chk3 m n p = y at *
  clear er ee g
  have dp : decide (1 ≤ p) = true := decide_eq_true hp
  have kM : Box _ := ⟨fun w => (rcheck_any a b q s t w).mono (R' := fun e w' => e = .returned (.int .i64 (chk3 a b q)) ∧ Ext w w') (fun e w' ⟨h1, h2⟩ => ⟨h1, h2 ▸ Ext.alloc (Below.refl _ _) _⟩)⟩
  have kP : Box _ := ⟨fun w => gpart_any a b q s t w⟩
  rw [hk] at kM kP
  have dq : decide (p ≤ q) = true := decide_eq_true hq
  have dm : decide (part3 a b q < part3 a b p) = false := decide_eq_false (by have := part_mono a b p a b q h hk (Int.le_refl _) hq (fun h => by omega); omega)
  generalize (⟨(textC ⟨a, b, p, s, t⟩).toArray⟩ : ByteArray) = tx at *
  generalize part3 a b p = x at *
  generalize part3 a b q = x3 at *
  clear he hb h hp hk hq
  have hx := Ext.alloc (Below.refl W.heap.size W) (.cells #[.int .i64 a, .int .i64 b, .int .i64 p, .int .u64 s, .bool t] 24)
  have hC := newblk W (.cells #[.int .i64 a, .int .i64 b, .int .i64 p, .int .u64 s, .bool t] 24)
  obtain ⟨m0, m1, m2, m3, m4⟩ := blk5 hC
  have hlt := blk_lt hC
  go_enter Tryd.func7, Tryd.ntmps7
  go_wp2_with (first
    | (go_at_call 8; (with_reducible refine (k1.out _).mono ?_); rintro e w1 ⟨rfl, hb⟩; have hx := Ext.trans' hx hb; have hC := Ext.blk hb hC; obtain ⟨m0, m1, m2, m3, m4⟩ := blk5 hC; have hlt := blk_lt hC)
    | (go_at_call 20; (with_reducible refine (k2.out _ hx).mono ?_); rintro e w1 ⟨rfl, hb⟩; have hx := Ext.trans' hx hb; have hC := Ext.blk hb hC; obtain ⟨m0, m1, m2, m3, m4⟩ := blk5 hC; have hlt := blk_lt hC)
    | (go_at_call 17; (with_reducible refine (k3.out _ hx).mono ?_); rintro e w1 ⟨rfl, hb⟩; have hx := Ext.trans' hx hb; have hC := Ext.blk hb hC; obtain ⟨m0, m1, m2, m3, m4⟩ := blk5 hC; have hlt := blk_lt hC)
    | (go_at_call 19; (with_reducible refine (k4.out _).mono ?_); rintro e w1 ⟨rfl, hb⟩; have hx := Ext.trans' hx hb; have hC := Ext.blk hb hC; obtain ⟨m0, m1, m2, m3, m4⟩ := blk5 hC; have hlt := blk_lt hC)
    | (go_at_call 21; (with_reducible refine (k5.out _).mono ?_); rintro e w1 ⟨rfl, hb⟩; have hx := Ext.trans' hx hb; have hC := Ext.blk hb hC; obtain ⟨m0, m1, m2, m3, m4⟩ := blk5 hC; have hlt := blk_lt hC)
    | (go_at_call 22; (with_reducible refine (r1.out _).mono ?_); rintro e w2 ⟨rfl, hb⟩; have hx := Ext.alloc (Ext.trans' hx hb) (.cells #[.int .i64 0, .int .i64 0, .int .i64 0, .int .u64 0, .bool false] 24); have hC := Ext.blk hb hC; obtain ⟨m0, m1, m2, m3, m4⟩ := blk5 hC; have hlt := blk_lt hC; have hC := Ext.blk (Ext.alloc (Below.refl _ w2) (.cells #[.int .i64 0, .int .i64 0, .int .i64 0, .int .u64 0, .bool false] 24)) hC)
    | (go_at_call 8; (with_reducible refine (kM.out _).mono ?_); rintro e w5 ⟨rfl, hb⟩; have hx := Ext.trans' (Ext.alloc hx _) hb; have hC := Ext.blk (Ext.trans' (Ext.alloc (Below.refl _ _) _) hb) hC; obtain ⟨m0, m1, m2, m3, m4⟩ := blk5 hC; have hlt := blk_lt hC; have hM := Ext.blk hb (newblk _ _); (try simp only [World.size_alloc] at hM); obtain ⟨n0, n1, n2, n3, n4⟩ := blk5 hM; have hlm := blk_lt hM)
    | (go_at_call 21; (with_reducible refine (kP.out _).mono ?_); rintro e w6 ⟨rfl, hb⟩; have hx := Ext.trans' hx hb)
    | (go_at_call 13; (with_reducible refine (ck.out _ hx).mono ?_); rintro e w7 ⟨rfl, hb⟩; have hx := Ext.trans' hx hb)
    | (go_at_call 13; (with_reducible refine (ck.out _ (Ext.alloc hx _)).mono ?_); rintro e w7 ⟨rfl, hb⟩; have hx := Ext.trans' (Ext.alloc hx _) hb))
  go_ret
  exact ⟨rfl, hx⟩

theorem lawConfigHolds_walk (v : Value) (m n q : Int) (W : World) (hv : CfgArg v) (wm : (Lit.int .i64 m).wf = true) (wn : (Lit.int .i64 n).wf = true) (wq : (Lit.int .i64 q).wf = true) (he : EnvG W) :
    Calls Tryd.prog 7 #[v, .int .i64 m, .int .i64 n, .int .i64 q] W fun e W' => e = .returned (.bool true) ∧ Below W.heap.size W W' := by
  obtain ⟨a, b, p, s, t, rfl, hb⟩ := hv
  by_cases h : chk3 a b p = 0
  · by_cases g : chk3 m n p = 0
    · by_cases hp : 1 ≤ p
      · by_cases hk : chk3 a b q = 0
        · by_cases hq : p ≤ q
          · exact holds_A3 a b p s t m n q W he hb h g hp hk hq
          · exact holds_A2 a b p s t m n q W he hb h g hp hk (by omega)
        · exact holds_A1 a b p s t m n q W he hb h g hp hk
      · exact holds_A0 a b p s t m n q W he hb h g (by omega)
    · by_cases hp : 1 ≤ p
      · by_cases hk : chk3 a b q = 0
        · by_cases hq : p ≤ q
          · exact holds_B3 a b p s t m n q W he hb h g hp hk hq
          · exact holds_B2 a b p s t m n q W he hb h g hp hk (by omega)
        · exact holds_B1 a b p s t m n q W he hb h g hp hk
      · exact holds_B0 a b p s t m n q W he hb h g (by omega)
  · exact holds_bad a b p s t m n q W he hb h
end Go.Proofs.YtpojemlnhbdfmaaDoor
