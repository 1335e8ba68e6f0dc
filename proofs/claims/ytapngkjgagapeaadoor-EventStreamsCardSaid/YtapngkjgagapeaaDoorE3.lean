
import Derived.Test.YtapngkjgagapeaaDoorE2
/- Contracts of Copy, Equal, New, Valid and their references. -/
namespace Go.Proofs.YtapngkjgagapeaaDoor
open Go.RowKit

def entV (k : ByteArray) (v : Value) (d b : Nat) : Value := .agg #[.string k, v, .int .u64 d, .int .u64 b]

theorem Ext.free {W w1 : World} (hb : Ext W w1) {b o : Nat} (hl : b < W.heap.size) (h : W.frozen? ⟨b, o, none⟩ = false) : w1.frozen? ⟨b, o, none⟩ = false := (Below.frozen hb (p := ⟨b, o, none⟩) hl).trans h

theorem newblk (w : World) (o : Obj) : (w.alloc o).heap[w.heap.size]? = some o := by
  show (w.heap.push o)[w.heap.size]? = some o
  simp
theorem Ext.blk {W w1 : World} (hb : Ext W w1) {B : Nat} {o : Obj} (h : W.heap[B]? = some o) : w1.heap[B]? = some o :=
  (hb.block B (Array.getElem?_eq_some_iff.1 h).1).trans h
theorem blk4 {w : World} {B : Nat} {c0 c1 c2 c3 : Value} {T : TypeId} (h : w.heap[B]? = some (.cells #[c0, c1, c2, c3] T (0, 0))) :
    w.cell? ⟨B, 0, none⟩ = some c0 ∧ w.cell? ⟨B, 1, none⟩ = some c1 ∧ w.cell? ⟨B, 2, none⟩ = some c2 ∧ w.cell? ⟨B, 3, none⟩ = some c3 ∧
    w.frozen? ⟨B, 0, none⟩ = false ∧ w.frozen? ⟨B, 1, none⟩ = false ∧ w.frozen? ⟨B, 2, none⟩ = false ∧ w.frozen? ⟨B, 3, none⟩ = false :=
  ⟨by rw [Lib.cell_of_heap h]; rfl, by rw [Lib.cell_of_heap h]; rfl, by rw [Lib.cell_of_heap h]; rfl, by rw [Lib.cell_of_heap h]; rfl, Lib.frozen_of_heap h 0, Lib.frozen_of_heap h 1, Lib.frozen_of_heap h 2, Lib.frozen_of_heap h 3⟩
theorem blk_lt {w : World} {B : Nat} {o : Obj} (h : w.heap[B]? = some o) : B < w.heap.size := (Array.getElem?_eq_some_iff.1 h).1

theorem Ext.st4 {w w1 : World} (h : Ext w w1) {B : Nat} (hB : w.heap.size ≤ B) (a b c d : Value) : Ext w ((((w1.setCell ⟨B, 0, none⟩ a).setCell ⟨B, 1, none⟩ b).setCell ⟨B, 2, none⟩ c).setCell ⟨B, 3, none⟩ d) :=
  (((Below.setCell h (p := ⟨B, 0, none⟩) hB _).setCell (p := ⟨B, 1, none⟩) hB _).setCell (p := ⟨B, 2, none⟩) hB _).setCell (p := ⟨B, 3, none⟩) hB _
theorem OwnB.st4 {C : Nat} {w : World} {v : Value} {l : List UInt8} (h : OwnB C w v l) {B : Nat} (hB : B < C) (a b c d : Value) : OwnB C ((((w.setCell ⟨B, 0, none⟩ a).setCell ⟨B, 1, none⟩ b).setCell ⟨B, 2, none⟩ c).setCell ⟨B, 3, none⟩ d) v l :=
  (((h.setCell (p := ⟨B, 0, none⟩) hB _).setCell (p := ⟨B, 1, none⟩) hB _).setCell (p := ⟨B, 2, none⟩) hB _).setCell (p := ⟨B, 3, none⟩) hB _

def fineN (k v b : Nat) : Bool := decide (chk k v b = 0)
set_option maxHeartbeats 1000000 in
theorem evalid_any (k : ByteArray) (a : Option Addr) (n c d b : Nat) (w : World) (hs : k.size ≤ 9223372036854775807) (hn : n ≤ 9223372036854775807) (hb : b < 18446744073709551616) :
    Calls Tryd.prog 42 #[.agg #[.string k, .slice a n c, .int .u64 d, .int .u64 b]] w fun e w' => e = .returned (.bool (fineN k.size n b)) ∧ Ext w w' := by
  have c1 : Box _ := ⟨fun w => check_any k a n c b w hs hn hb⟩
  have hx : Ext w (w.alloc (.cells #[.string k, .slice a n c, .int .u64 d, .int .u64 b] 83)) := Ext.alloc (Below.refl _ _) _
  unfold fineN
  generalize chk k.size n b = x at *
  go_enter Tryd.func42, Tryd.ntmps42
  go_wp2_with (first | (go_at_call 64; (with_reducible refine (c1.out _).mono ?_); rintro e w1 ⟨rfl, hb⟩; have hx := Ext.trans' hx hb))
  go_ret
  exact ⟨ret_bool (by rw [Bool.eq_iff_iff]; simp), hx⟩
def eqN (k1 k2 : ByteArray) (l1 l2 : List UInt8) (d1 d2 b1 b2 : Nat) : Bool := decide (k1 = k2) && (l1 == l2) && decide (d1 = d2) && decide (b1 = b2)

end Go.Proofs.YtapngkjgagapeaaDoor
