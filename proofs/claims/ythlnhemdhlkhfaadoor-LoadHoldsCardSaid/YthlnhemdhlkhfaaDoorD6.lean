import Derived.Test.YthlnhemdhlkhfaaDoorD5
import Derived.Deep.RegionHeld3
/- The maker of a workload's keys. -/
namespace Go.Proofs.YthlnhemdhlkhfaaDoor
open Go.RowKit

/-- The maker in block M, with its next number. -/
def MK (M k a r p s x : Nat) (w : World) : Prop :=
  w.heap[M]? = some (.cells #[.int .i64 k, .int .i64 a, .int .i64 r, .int .i64 p, .int .u64 s, .int .u64 x] 60 (0, 0))
/-- Only the maker has changed. -/
structure Nx (M : Nat) (w w' : World) : Prop where
  size : w'.heap.size = w.heap.size
  other : ∀ b, b ≠ M → w'.heap[b]? = w.heap[b]?
  ext : ∀ w0, w0.heap.size ≤ M → Ext w0 w → Ext w0 w'
theorem Nx.refl (M : Nat) (w : World) : Nx M w w := ⟨rfl, fun _ _ => rfl, fun _ _ h => h⟩
theorem Nx.trans {M : Nat} {a b c : World} (h : Nx M a b) (k : Nx M b c) : Nx M a c :=
  ⟨k.size.trans h.size, fun x hx => (k.other x hx).trans (h.other x hx), fun w0 h0 h1 => k.ext w0 h0 (h.ext w0 h0 h1)⟩
theorem Nx.drewN {M : Nat} {a b : World} (h : Nx M a b) (n : Nat) : Nx M a (b.drewN n) :=
  ⟨h.size, h.other, fun w0 h0 h1 => Ext.drewN (h.ext w0 h0 h1) n⟩
theorem Nx.put {M : Nat} (w : World) (o : Nat) (v : Value) : Nx M w (w.setCell ⟨M, o, none⟩ v) :=
  ⟨by simp, fun b hb => heap_setCell_other w ⟨M, o, none⟩ b v hb, fun w0 h0 h1 => Below.setCell h1 (p := ⟨M, o, none⟩) h0 v⟩
theorem MK.cells {M k a r p s x : Nat} {w : World} (h : MK M k a r p s x w) :
    w.cell? ⟨M, 0, none⟩ = some (.int .i64 k) ∧ w.cell? ⟨M, 1, none⟩ = some (.int .i64 a) ∧ w.cell? ⟨M, 2, none⟩ = some (.int .i64 r) ∧ w.cell? ⟨M, 3, none⟩ = some (.int .i64 p) ∧ w.cell? ⟨M, 4, none⟩ = some (.int .u64 s) ∧ w.cell? ⟨M, 5, none⟩ = some (.int .u64 x) ∧ w.frozen? ⟨M, 5, none⟩ = false :=
  ⟨by rw [Lib.cell_of_heap h]; rfl, by rw [Lib.cell_of_heap h]; rfl, by rw [Lib.cell_of_heap h]; rfl, by rw [Lib.cell_of_heap h]; rfl, by rw [Lib.cell_of_heap h]; rfl, by rw [Lib.cell_of_heap h]; rfl, Lib.frozen_of_heap h 5⟩
theorem MK.put {M k a r p s x : Nat} {w : World} (h : MK M k a r p s x w) (y : Nat) : MK M k a r p s y (w.setCell ⟨M, 5, none⟩ (.int .u64 y)) :=
  heap_setCell_same w M 5 _ _ _ h
set_option maxHeartbeats 1000000 in
theorem mnumber_any (M k a r p s x m : Nat) (w : World) (hM : MK M k a r p s x w) (hx : x < 2147483647) (h0 : 0 < m) (hm : m ≤ 1000000) :
    Calls Tryd.prog 53 #[.pointer (some ⟨M, 0, none⟩), .int .i64 m] w fun e w' => e = .returned (.int .i64 ((x % m : Nat) : Int)) ∧ MK M k a r p s (x * 48271 % 2147483647) w' ∧ Nx M w w' := by
  obtain ⟨n0, n1, n2, n3, n4, n5, nf⟩ := hM.cells
  have m0 : ((m : Int) == 0) = false := by rw [beq_eq_false_iff_ne]; omega
  obtain ⟨q, q0, q1, q2⟩ := mul_fact x 48271 hx (by decide)
  rw [← q0]
  have e1 := tmod_nat x m
  have f1 : (x : Int) % (m : Int) = ((x % m : Nat) : Int) := (Int.natCast_emod _ _).symm
  have hp := Box.mk (hM.put q)
  have u1 : IntKind.i64.wrap (x : Int) = x := by rw [IntKind.wrap_i64]; omega
  rw [show ((48271 : Nat) : Int) = 48271 from rfl] at q1 q2
  generalize x % m = z at *
  clear q0 hM
  go_enter Tryd.func53, Tryd.ntmps53
  go_wp2
  go_ret
  exact ⟨ret_int (by omega), hp.out, Nx.put _ _ _⟩
set_option maxHeartbeats 2000000 in
theorem mleast_any (M k a r p s f t m : Nat) (w : World) (hM : MK M k a r p s (num s f) w) (ht : t ≤ 1000000) (h0 : 0 < m) (hm : m ≤ 1000000) :
    Calls Tryd.prog 54 #[.pointer (some ⟨M, 0, none⟩), .int .i64 t, .int .i64 m] w fun e w' => e = .returned (.int .i64 (smallL s m f t)) ∧ MK M k a r p s (num s (f + t)) w' ∧ Nx M w w' := by
  go_enter Tryd.func54, Tryd.ntmps54
  go_wp2
  go_loopw [7, 10] (fun o i wr => ∃ j : Nat, j ≤ t ∧ o = .int .i64 (smallL s m f j) ∧ i = .int .i64 j ∧ Box (MK M k a r p s (num s (f + j)) wr) ∧ Nx M w wr) (fun _ i _ => t - (intOf i).toNat)
  case atStart => exact ⟨0, Nat.zero_le _, rfl, rfl, ⟨hM⟩, Nx.refl _ _⟩
  case round =>
    obtain ⟨j, hj, rfl, rfl, hK, hN⟩ := hrel
    by_cases hjt : j = t
    · subst hjt
      go_wp2
      go_ret
      exact ⟨rfl, hK.out, hN⟩
    · have d1 : decide ((j : Int) < (t : Int)) = true := decide_eq_true (by omega)
      have hl := smallL_le s m f j
      have he : Box (smallL s m f (j + 1) = min (smallL s m f j) (num s (f + j) % m)) := ⟨rfl⟩
      have c1 := Box.mk (mnumber_any M k a r p s (num s (f + j)) m wr hK.out (num_lt _ _) h0 hm)
      rw [← num_succ] at c1
      have hd : num s (f + j) % m < m := Nat.mod_lt _ h0
      have e2 := min_nat (smallL s m f j) (num s (f + j) % m)
      generalize num s (f + j) % m = q at *
      rw [← he.out] at e2
      generalize smallL s m f j = z at *
      have hj2 : j < t := by omega
      go_wp2_with (first | (go_at_call 53; (with_reducible refine (c1.out).mono ?_); rintro e w1 ⟨rfl, hK1, hN1⟩))
      go_roundw
      case rel => exact ⟨j + 1, by omega, rfl, by go_num, ⟨hK1⟩, hN.trans hN1⟩
      case measure => simp [intOf]; omega
end Go.Proofs.YthlnhemdhlkhfaaDoor
