import Derived.Test.YtbnmnkmjokcmfaaDoorS5
/- Plain laws of the season's numbers: the transform written out, its inverse, the product, the squares, turning. -/
namespace Go.Proofs.YtbnmnkmjokcmfaaDoor
open Go.RowKit

theorem tF (a b : Nat → Int) : (tR a b 0 = a 0 + a 1 + a 2 + a 3 ∧ tI a b 0 = b 0 + b 1 + b 2 + b 3) ∧ (tR a b 1 = a 0 + b 1 - a 2 - b 3 ∧ tI a b 1 = b 0 - a 1 - b 2 + a 3) ∧ (tR a b 2 = a 0 - a 1 + a 2 - a 3 ∧ tI a b 2 = b 0 - b 1 + b 2 - b 3) ∧ (tR a b 3 = a 0 - b 1 - a 2 + b 3 ∧ tI a b 3 = b 0 + a 1 - b 2 - a 3) := by
  refine ⟨⟨?_, ?_⟩, ⟨?_, ?_⟩, ⟨?_, ?_⟩, ?_, ?_⟩ <;> simp [tR, tI, sR, sI, cr, ci] <;> omega
theorem iF (a b : Nat → Int) : (iR a b 0 = a 0 + a 1 + a 2 + a 3 ∧ iI a b 0 = b 0 + b 1 + b 2 + b 3) ∧ (iR a b 1 = a 0 - b 1 - a 2 + b 3 ∧ iI a b 1 = b 0 + a 1 - b 2 - a 3) ∧ (iR a b 2 = a 0 - a 1 + a 2 - a 3 ∧ iI a b 2 = b 0 - b 1 + b 2 - b 3) ∧ (iR a b 3 = a 0 + b 1 - a 2 - b 3 ∧ iI a b 3 = b 0 - a 1 - b 2 + a 3) := by
  refine ⟨⟨?_, ?_⟩, ⟨?_, ?_⟩, ⟨?_, ?_⟩, ?_, ?_⟩ <;> simp [iR, iI, sR, sI, cr, ci] <;> omega
theorem four_cases {P : Nat → Prop} (h0 : P 0) (h1 : P 1) (h2 : P 2) (h3 : P 3) : ∀ k, k < 4 → P k := fun k hk => by
  obtain rfl | rfl | rfl | rfl : k = 0 ∨ k = 1 ∨ k = 2 ∨ k = 3 := by omega
  all_goals assumption
/-- the inverse transform of the transform -/
theorem inv_t (a b : Nat → Int) : ∀ k, k < 4 → iR (tR a b) (tI a b) k = 4 * a k ∧ iI (tR a b) (tI a b) k = 4 * b k := by
  obtain ⟨⟨e1, e2⟩, ⟨e3, e4⟩, ⟨e5, e6⟩, e7, e8⟩ := iF (tR a b) (tI a b)
  obtain ⟨⟨f1, f2⟩, ⟨f3, f4⟩, ⟨f5, f6⟩, f7, f8⟩ := tF a b
  refine four_cases ⟨?_, ?_⟩ ⟨?_, ?_⟩ ⟨?_, ?_⟩ ⟨?_, ?_⟩ <;> omega
theorem prF (a b c d : Nat → Int) :
    (prR a b c d 0 = (a 0 * c 0 - b 0 * d 0) + (a 1 * c 3 - b 1 * d 3) + (a 2 * c 2 - b 2 * d 2) + (a 3 * c 1 - b 3 * d 1) ∧ prI a b c d 0 = (a 0 * d 0 + b 0 * c 0) + (a 1 * d 3 + b 1 * c 3) + (a 2 * d 2 + b 2 * c 2) + (a 3 * d 1 + b 3 * c 1)) ∧
    (prR a b c d 1 = (a 0 * c 1 - b 0 * d 1) + (a 1 * c 0 - b 1 * d 0) + (a 2 * c 3 - b 2 * d 3) + (a 3 * c 2 - b 3 * d 2) ∧ prI a b c d 1 = (a 0 * d 1 + b 0 * c 1) + (a 1 * d 0 + b 1 * c 0) + (a 2 * d 3 + b 2 * c 3) + (a 3 * d 2 + b 3 * c 2)) ∧
    (prR a b c d 2 = (a 0 * c 2 - b 0 * d 2) + (a 1 * c 1 - b 1 * d 1) + (a 2 * c 0 - b 2 * d 0) + (a 3 * c 3 - b 3 * d 3) ∧ prI a b c d 2 = (a 0 * d 2 + b 0 * c 2) + (a 1 * d 1 + b 1 * c 1) + (a 2 * d 0 + b 2 * c 0) + (a 3 * d 3 + b 3 * c 3)) ∧
    (prR a b c d 3 = (a 0 * c 3 - b 0 * d 3) + (a 1 * c 2 - b 1 * d 2) + (a 2 * c 1 - b 2 * d 1) + (a 3 * c 0 - b 3 * d 0) ∧ prI a b c d 3 = (a 0 * d 3 + b 0 * c 3) + (a 1 * d 2 + b 1 * c 2) + (a 2 * d 1 + b 2 * c 1) + (a 3 * d 0 + b 3 * c 0)) := by
  refine ⟨⟨?_, ?_⟩, ⟨?_, ?_⟩, ⟨?_, ?_⟩, ?_, ?_⟩ <;> simp [prR, prI, pR, pI] <;> omega
set_option maxHeartbeats 4000000 in
/-- the transform of the product -/
theorem t_pr (a b c d : Nat → Int) : ∀ k, k < 4 → tR (prR a b c d) (prI a b c d) k = tR a b k * tR c d k - tI a b k * tI c d k ∧ tI (prR a b c d) (prI a b c d) k = tR a b k * tI c d k + tI a b k * tR c d k := by
  obtain ⟨⟨e1, e2⟩, ⟨e3, e4⟩, ⟨e5, e6⟩, e7, e8⟩ := tF (prR a b c d) (prI a b c d)
  obtain ⟨⟨f1, f2⟩, ⟨f3, f4⟩, ⟨f5, f6⟩, f7, f8⟩ := tF a b
  obtain ⟨⟨g1, g2⟩, ⟨g3, g4⟩, ⟨g5, g6⟩, g7, g8⟩ := tF c d
  obtain ⟨⟨p1, p2⟩, ⟨p3, p4⟩, ⟨p5, p6⟩, p7, p8⟩ := prF a b c d
  simp only [p1, p2, p3, p4, p5, p6, p7, p8] at e1 e2 e3 e4 e5 e6 e7 e8
  refine four_cases ⟨?_, ?_⟩ ⟨?_, ?_⟩ ⟨?_, ?_⟩ ⟨?_, ?_⟩
  · rw [e1, f1, f2, g1, g2]; simp only [Int.add_mul, Int.mul_add, Int.sub_mul, Int.mul_sub]; omega
  · rw [e2, f1, f2, g1, g2]; simp only [Int.add_mul, Int.mul_add, Int.sub_mul, Int.mul_sub]; omega
  · rw [e3, f3, f4, g3, g4]; simp only [Int.add_mul, Int.mul_add, Int.sub_mul, Int.mul_sub]; omega
  · rw [e4, f3, f4, g3, g4]; simp only [Int.add_mul, Int.mul_add, Int.sub_mul, Int.mul_sub]; omega
  · rw [e5, f5, f6, g5, g6]; simp only [Int.add_mul, Int.mul_add, Int.sub_mul, Int.mul_sub]; omega
  · rw [e6, f5, f6, g5, g6]; simp only [Int.add_mul, Int.mul_add, Int.sub_mul, Int.mul_sub]; omega
  · rw [e7, f7, f8, g7, g8]; simp only [Int.add_mul, Int.mul_add, Int.sub_mul, Int.mul_sub]; omega
  · rw [e8, f7, f8, g7, g8]; simp only [Int.add_mul, Int.mul_add, Int.sub_mul, Int.mul_sub]; omega
set_option maxHeartbeats 4000000 in
/-- the squares of the transform -/
theorem sq_t (a b : Nat → Int) : (tR a b 0 * tR a b 0 + tI a b 0 * tI a b 0) + (tR a b 1 * tR a b 1 + tI a b 1 * tI a b 1) + (tR a b 2 * tR a b 2 + tI a b 2 * tI a b 2) + (tR a b 3 * tR a b 3 + tI a b 3 * tI a b 3) = 4 * ((a 0 * a 0 + b 0 * b 0) + (a 1 * a 1 + b 1 * b 1) + (a 2 * a 2 + b 2 * b 2) + (a 3 * a 3 + b 3 * b 3)) := by
  obtain ⟨⟨f1, f2⟩, ⟨f3, f4⟩, ⟨f5, f6⟩, f7, f8⟩ := tF a b
  rw [f1, f2, f3, f4, f5, f6, f7, f8]
  generalize a 0 = x0; generalize a 1 = x1; generalize a 2 = x2; generalize a 3 = x3; generalize b 0 = y0; generalize b 1 = y1; generalize b 2 = y2; generalize b 3 = y3
  simp only [Int.add_mul, Int.mul_add, Int.sub_mul, Int.mul_sub, Int.mul_comm x1 x0, Int.mul_comm x2 x0, Int.mul_comm x3 x0, Int.mul_comm y0 x0, Int.mul_comm y1 x0, Int.mul_comm y2 x0, Int.mul_comm y3 x0, Int.mul_comm x2 x1, Int.mul_comm x3 x1, Int.mul_comm y0 x1, Int.mul_comm y1 x1, Int.mul_comm y2 x1, Int.mul_comm y3 x1, Int.mul_comm x3 x2, Int.mul_comm y0 x2, Int.mul_comm y1 x2, Int.mul_comm y2 x2, Int.mul_comm y3 x2, Int.mul_comm y0 x3, Int.mul_comm y1 x3, Int.mul_comm y2 x3, Int.mul_comm y3 x3, Int.mul_comm y1 y0, Int.mul_comm y2 y0, Int.mul_comm y3 y0, Int.mul_comm y2 y1, Int.mul_comm y3 y1, Int.mul_comm y3 y2]
  omega
/-- turning, and turning back -/
theorem tn_one (a : Nat → Int) : tn a 1 0 = a 3 ∧ tn a 1 1 = a 0 ∧ tn a 1 2 = a 1 ∧ tn a 1 3 = a 2 := ⟨rfl, rfl, rfl, rfl⟩
theorem tn_back (a : Nat → Int) : ∀ k, k < 4 → tn (tn a 1) (-1) k = a k := four_cases rfl rfl rfl rfl
/-- the transform of the turned numbers: number k times -i, k times -/
theorem t_tn (a b : Nat → Int) : (tR (tn a 1) (tn b 1) 0 = tR a b 0 ∧ tI (tn a 1) (tn b 1) 0 = tI a b 0) ∧ (tR (tn a 1) (tn b 1) 1 = tI a b 1 ∧ tI (tn a 1) (tn b 1) 1 = -tR a b 1) ∧ (tR (tn a 1) (tn b 1) 2 = -tR a b 2 ∧ tI (tn a 1) (tn b 1) 2 = -tI a b 2) ∧ (tR (tn a 1) (tn b 1) 3 = -tI a b 3 ∧ tI (tn a 1) (tn b 1) 3 = tR a b 3) := by
  obtain ⟨⟨e1, e2⟩, ⟨e3, e4⟩, ⟨e5, e6⟩, e7, e8⟩ := tF (tn a 1) (tn b 1)
  obtain ⟨⟨f1, f2⟩, ⟨f3, f4⟩, ⟨f5, f6⟩, f7, f8⟩ := tF a b
  obtain ⟨g0, g1, g2, g3⟩ := tn_one a
  obtain ⟨h0, h1, h2, h3⟩ := tn_one b
  simp only [g0, g1, g2, g3, h0, h1, h2, h3] at e1 e2 e3 e4 e5 e6 e7 e8
  generalize tR (tn a 1) (tn b 1) = X at *
  generalize tI (tn a 1) (tn b 1) = Y at *
  generalize tR a b = u at *
  generalize tI a b = v at *
  clear g0 g1 g2 g3 h0 h1 h2 h3
  refine ⟨⟨?_, ?_⟩, ⟨?_, ?_⟩, ⟨?_, ?_⟩, ?_, ?_⟩ <;> omega
end Go.Proofs.YtbnmnkmjokcmfaaDoor
