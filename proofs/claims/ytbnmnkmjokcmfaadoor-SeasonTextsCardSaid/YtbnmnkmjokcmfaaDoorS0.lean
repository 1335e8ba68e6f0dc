import Derived.Test.YtbnmnkmjokcmfaaDoorLib
/- Plain facts of the season's numbers: what is valid, the transform of four numbers, bounds of products. -/
namespace Go.Proofs.YtbnmnkmjokcmfaaDoor
open Go.RowKit

/-- the parts of a number are from -2^20 to 2^20 -/
def gB (a b : Int) : Bool := decide (-1048576 ≤ a) && decide (a ≤ 1048576) && decide (-1048576 ≤ b) && decide (b ≤ 1048576)
theorem gB_iff {a b : Int} : gB a b = true ↔ (-1048576 ≤ a ∧ a ≤ 1048576) ∧ (-1048576 ≤ b ∧ b ≤ 1048576) := by
  unfold gB
  simp only [Bool.and_eq_true, decide_eq_true_eq]
  constructor
  · rintro ⟨⟨⟨h1, h2⟩, h3⟩, h4⟩; exact ⟨⟨h1, h2⟩, h3, h4⟩
  · rintro ⟨⟨h1, h2⟩, h3, h4⟩; exact ⟨⟨⟨h1, h2⟩, h3⟩, h4⟩
/-- how a number is not valid: the four comparisons in the order in which they are made -/
theorem gB_not {a b : Int} (h : gB a b = false) : decide (a < -1048576) = true ∨ (decide (a < -1048576) = false ∧ decide (1048576 < a) = true) ∨ (decide (a < -1048576) = false ∧ decide (1048576 < a) = false ∧ decide (b < -1048576) = true) ∨ (decide (a < -1048576) = false ∧ decide (1048576 < a) = false ∧ decide (b < -1048576) = false ∧ decide (1048576 < b) = true) := by
  have h' : ¬ ((-1048576 ≤ a ∧ a ≤ 1048576) ∧ (-1048576 ≤ b ∧ b ≤ 1048576)) := by rw [← gB_iff, h]; decide
  simp only [decide_eq_true_eq, decide_eq_false_iff_not]
  omega
theorem gB_yes {a b : Int} (h : gB a b = true) : decide (a < -1048576) = false ∧ decide (1048576 < a) = false ∧ decide (b < -1048576) = false ∧ decide (1048576 < b) = false := by
  have h' := gB_iff.1 h
  simp only [decide_eq_false_iff_not]
  omega
theorem pb (A B : Nat) {a c : Int} (ha : -(A : Int) ≤ a ∧ a ≤ A) (hc : -(B : Int) ≤ c ∧ c ≤ B) : -((A * B : Nat) : Int) ≤ a * c ∧ a * c ≤ ((A * B : Nat) : Int) := by
  have : (a * c).natAbs ≤ A * B := by rw [Int.natAbs_mul]; exact Nat.mul_le_mul (by omega) (by omega)
  omega
theorem newblk (w : World) (o : Obj) : (w.alloc o).heap[w.heap.size]? = some o := by
  show (w.heap.push o)[w.heap.size]? = some o
  simp
theorem Ext.blk {W w1 : World} (hb : Ext W w1) {B : Nat} {o : Obj} (h : W.heap[B]? = some o) : w1.heap[B]? = some o :=
  (hb.block B (Array.getElem?_eq_some_iff.1 h).1).trans h
theorem blk_lt {w : World} {B : Nat} {o : Obj} (h : w.heap[B]? = some o) : B < w.heap.size := (Array.getElem?_eq_some_iff.1 h).1
theorem Ext.drew1 {a w : World} (h : Ext a w) : Ext a w.drew := Ext.drewN h 1
theorem cutX {X G : Prop} (k : X → G) (h : X) : G := k h
end Go.Proofs.YtbnmnkmjokcmfaaDoor
