import Derived.Test.YtbnmnkmjokcmfaaDoorS3
import Derived.BigQuiet
import Derived.BigRegion
/- season: counters. -/
namespace Go.Proofs.YtbnmnkmjokcmfaaDoor
open Go.RowKit
/-- Only block C, and new ones, have changed. -/
structure Tch (C : Nat) (w w' : World) : Prop where
  size : w.heap.size ≤ w'.heap.size
  other : ∀ j, j < w.heap.size → j ≠ C → w'.heap[j]? = w.heap[j]?
  ext : ∀ w0, Ext w0 w → w0.heap.size ≤ C → Ext w0 w'
theorem Tch.of_ext {C : Nat} {w w' : World} (h : Ext w w') : Tch C w w' := ⟨h.size, fun j hj _ => h.block j hj, fun w0 h0 _ => Ext.trans' h0 h⟩
theorem Tch.trans {C : Nat} {a b c : World} (h : Tch C a b) (k : Tch C b c) : Tch C a c :=
  ⟨Nat.le_trans h.size k.size, fun j hj hx => (k.other j (Nat.lt_of_lt_of_le hj h.size) hx).trans (h.other j hj hx), fun w0 h0 h1 => k.ext w0 (h.ext w0 h0 h1) h1⟩
theorem Tch.put {C : Nat} (w : World) (o : Nat) (v : Value) : Tch C w (w.setCell ⟨C, o, none⟩ v) :=
  ⟨by simp, fun j _ hj => heap_setCell_other _ _ _ _ hj, fun w0 h0 h1 => Below.setCell h0 (p := ⟨C, o, none⟩) h1 v⟩
theorem Tch.blk {C : Nat} {w w' : World} (h : Tch C w w') {B : Nat} {o : Obj} (hb : w.heap[B]? = some o) (hne : B ≠ C) : w'.heap[B]? = some o := (h.other B (blk_lt hb) hne).trans hb
def ctC (W : Nat) (m : Nat → Int) : Array Value := #[.int .u64 W, .int .i64 (m 0), .int .i64 (m 1), .int .i64 (m 2), .int .i64 (m 3)]
/-- The counter in block C. -/
structure Ctr (w : World) (C W : Nat) (m : Nat → Int) : Prop where
  hd : w.heap[C]? = some (.cells (ctC W m) 62 (0, 0))
  w1 : 1 ≤ W
  w2 : W ≤ 4294967296
  lim : ∀ j, j < 4 → 0 ≤ m j ∧ m j ≤ 1048576
theorem Ctr.ext {w w' : World} {C W : Nat} {m : Nat → Int} (h : Ctr w C W m) (hb : Ext w w') : Ctr w' C W m := ⟨Ext.blk hb h.hd, h.w1, h.w2, h.lim⟩
theorem Ctr.tch {w w' : World} {C D W : Nat} {m : Nat → Int} (h : Ctr w C W m) (hb : Tch D w w') (hne : C ≠ D) : Ctr w' C W m := ⟨hb.blk h.hd hne, h.w1, h.w2, h.lim⟩
theorem Ctr.cells {w : World} {C W : Nat} {m : Nat → Int} (h : Ctr w C W m) : (w.cell? ⟨C, 0, none⟩ = some (.int .u64 W) ∧ w.cell? ⟨C, 1, none⟩ = some (.int .i64 (m 0)) ∧ w.cell? ⟨C, 2, none⟩ = some (.int .i64 (m 1)) ∧ w.cell? ⟨C, 3, none⟩ = some (.int .i64 (m 2)) ∧ w.cell? ⟨C, 4, none⟩ = some (.int .i64 (m 3))) ∧
    w.frozen? ⟨C, 1, none⟩ = false ∧ w.frozen? ⟨C, 2, none⟩ = false ∧ w.frozen? ⟨C, 3, none⟩ = false ∧ w.frozen? ⟨C, 4, none⟩ = false := by
  have hh := h.hd
  refine ⟨⟨?_, ?_, ?_, ?_, ?_⟩, Lib.frozen_of_heap hh 1, Lib.frozen_of_heap hh 2, Lib.frozen_of_heap hh 3, Lib.frozen_of_heap hh 4⟩
  all_goals (rw [Lib.cell_of_heap hh]; rfl)
theorem Ctr.at {w : World} {C W : Nat} {m : Nat → Int} (h : Ctr w C W m) (q : Nat) (hq : q < 4) : w.cell? ⟨C, 1 + q, none⟩ = some (.int .i64 (m q)) ∧ w.frozen? ⟨C, 1 + q, none⟩ = false := by
  refine ⟨?_, Lib.frozen_of_heap h.hd (1 + q)⟩
  rw [Lib.cell_of_heap h.hd]
  obtain rfl | rfl | rfl | rfl : q = 0 ∨ q = 1 ∨ q = 2 ∨ q = 3 := by omega
  all_goals rfl
def upd (m : Nat → Int) (q : Nat) (x : Int) (j : Nat) : Int := if j = q then x else m j
theorem ctC_set (W : Nat) (m : Nat → Int) (q : Nat) (x : Int) (hq : q < 4) : (ctC W m).setIfInBounds (1 + q) (.int .i64 x) = ctC W (upd m q x) := by
  obtain rfl | rfl | rfl | rfl : q = 0 ∨ q = 1 ∨ q = 2 ∨ q = 3 := by omega
  all_goals rfl
set_option maxHeartbeats 1000000 in
theorem cnone_ok (w : World) (C W : Nat) (m : Nat → Int) (h : Ctr w C W m) : Calls Tryd.prog 47 #[.pointer (some ⟨C, 0, none⟩)] w fun e w' => e = .returned (.bool false) ∧ w = w' := by
  obtain ⟨⟨c0, _⟩, _⟩ := h.cells
  have e1 : ((W : Int) == 0) = false := by rw [beq_eq_false_iff_ne]; have := h.w1; omega
  clear h
  go_enter Tryd.func47, Tryd.ntmps47
  go_wp2
  go_ret
  exact ⟨rfl, rfl⟩
set_option maxHeartbeats 1000000 in
theorem cnone_nil (w : World) : Calls Tryd.prog 47 #[.pointer none] w fun e w' => e = .returned (.bool true) ∧ w = w' := by
  go_enter Tryd.func47, Tryd.ntmps47
  go_wp2
  go_ret
  exact ⟨rfl, rfl⟩
set_option maxHeartbeats 1000000 in
theorem cnone_zero (w : World) (C : Nat) (h : w.cell? ⟨C, 0, none⟩ = some (.int .u64 0)) : Calls Tryd.prog 47 #[.pointer (some ⟨C, 0, none⟩)] w fun e w' => e = .returned (.bool true) ∧ w = w' := by
  go_enter Tryd.func47, Tryd.ntmps47
  go_wp2
  go_ret
  exact ⟨rfl, rfl⟩
set_option maxHeartbeats 1000000 in
theorem quarter_any (w : World) (C W now : Nat) (m : Nat → Int) (h : Ctr w C W m) (hn : now < 18446744073709551616) : Calls Tryd.prog 48 #[.pointer (some ⟨C, 0, none⟩), .int .u64 now] w fun e w' => e = .returned (.int .i64 ((now / W % 4 : Nat) : Int)) ∧ Ext w w' := by
  obtain ⟨⟨c0, _⟩, _⟩ := h.cells
  have hw := h.w1
  have e0 : ¬ W = 0 := by omega
  have e1 : ((W : Int) == 0) = false := by rw [beq_eq_false_iff_ne]; omega
  have hb : now / W ≤ now := Nat.div_le_self _ _
  have q0 : (now : Int).tdiv (W : Int) = ((now / W : Nat) : Int) := rfl
  have q9 : (now : Int) / (W : Int) = ((now / W : Nat) : Int) := (Int.natCast_ediv _ _).symm
  generalize now / W = g at *
  have q1 : (g : Int).tmod 4 = ((g % 4 : Nat) : Int) := rfl
  have q8 : (g : Int) % 4 = ((g % 4 : Nat) : Int) := rfl
  have hg4 : g % 4 < 4 := Nat.mod_lt _ (by decide)
  have q2 : IntKind.u64.wrap (g : Int) = (g : Int) := by rw [IntKind.wrap_u64]; omega
  generalize g % 4 = k at *
  have q3 : IntKind.u64.wrap (k : Int) = (k : Int) := by rw [IntKind.wrap_u64]; omega
  have q4 : IntKind.i64.wrap (k : Int) = (k : Int) := by rw [IntKind.wrap_i64]; omega
  have q5 : wrap64 (k : Int) = (k : Int) := by unfold wrap64; omega
  clear h
  go_enter Tryd.func48, Tryd.ntmps48
  go_wp2
  go_ret
  refine ⟨ret_int ?_, Below.refl _ _⟩
  first
    | rfl
    | omega
set_option maxHeartbeats 1000000 in
theorem sum_any (w : World) (C W : Nat) (m : Nat → Int) (h : Ctr w C W m) : Calls Tryd.prog 49 #[.pointer (some ⟨C, 0, none⟩)] w fun e w' => e = .returned (.int .i64 (m 0 + m 1 + m 2 + m 3)) ∧ Ext w w' := by
  obtain ⟨⟨c0, c1, c2, c3, c4⟩, _⟩ := h.cells
  have l0 := h.lim 0 (by omega); have l1 := h.lim 1 (by omega); have l2 := h.lim 2 (by omega); have l3 := h.lim 3 (by omega)
  clear h
  generalize m 0 = x0 at *
  generalize m 1 = x1 at *
  generalize m 2 = x2 at *
  generalize m 3 = x3 at *
  have q1 : IntKind.i64.wrap (x0 + x1) = x0 + x1 := by rw [IntKind.wrap_i64]; omega
  have q2 : IntKind.i64.wrap (x0 + x1 + x2) = x0 + x1 + x2 := by rw [IntKind.wrap_i64]; omega
  have q3 : IntKind.i64.wrap (x0 + x1 + x2 + x3) = x0 + x1 + x2 + x3 := by rw [IntKind.wrap_i64]; omega
  go_enter Tryd.func49, Tryd.ntmps49
  go_wp2
  go_quiet (fail)
  go_wp2
  go_ret
  exact ⟨ret_int (by first | rfl | omega), Ext.drewN (Below.refl _ _) _⟩
set_option maxRecDepth 100000 in
set_option maxHeartbeats 2000000 in
theorem counts_any (w : World) (C W : Nat) (m : Nat → Int) (h : Ctr w C W m) : Calls Tryd.prog 27 #[.pointer (some ⟨C, 0, none⟩)] w fun e w' => e = .returned (.agg #[.int .i64 (m 0), .int .i64 (m 1), .int .i64 (m 2), .int .i64 (m 3)]) ∧ Ext w w' := by
  have hx : Ext w (w.alloc (.cells #[.int .i64 0, .int .i64 0, .int .i64 0, .int .i64 0] 50)) := Ext.alloc (Below.refl _ _) _
  have cn := Box.mk (cnone_ok (w.alloc (.cells #[.int .i64 0, .int .i64 0, .int .i64 0, .int .i64 0] 50)) C W m (h.ext hx))
  obtain ⟨⟨c0, c1, c2, c3, c4⟩, _⟩ := (h.ext hx).cells
  have hC := blk_lt h.hd
  clear h
  generalize m 0 = x0 at *
  generalize m 1 = x1 at *
  generalize m 2 = x2 at *
  generalize m 3 = x3 at *
  go_enter Tryd.func27, Tryd.ntmps27
  go_wp2_with (first | (go_at_call 47; (with_reducible refine (cn.out).mono ?_); rintro e w' ⟨rfl, rfl⟩))
  refine bodyPost_ret (v := .agg #[.int .i64 x0, .int .i64 x1, .int .i64 x2, .int .i64 x3]) ?_ rfl ⟨rfl, ?_⟩
  · simp [results, Tryd.results27, go_sem]
  · go_grown
set_option maxRecDepth 100000 in
set_option maxHeartbeats 2000000 in
theorem ccopy_any (w : World) (C W : Nat) (m : Nat → Int) (h : Ctr w C W m) : Calls Tryd.prog 28 #[.pointer (some ⟨C, 0, none⟩)] w fun e w' => e = .returned (.pointer (some ⟨w.heap.size, 0, none⟩)) ∧ Ctr w' w.heap.size W m ∧ Ext w w' := by
  have cn := Box.mk (cnone_ok w C W m h)
  obtain ⟨⟨c0, c1, c2, c3, c4⟩, _⟩ := h.cells
  have hfin : Box (Ctr (w.alloc (.cells (ctC W m) 62)) w.heap.size W m) := ⟨⟨newblk _ _, h.w1, h.w2, h.lim⟩⟩
  unfold ctC at hfin
  clear h
  go_enter Tryd.func28, Tryd.ntmps28
  go_wp2_with (first | (go_at_call 47; (with_reducible refine (cn.out).mono ?_); rintro e w' ⟨rfl, rfl⟩))
  go_ret
  exact ⟨rfl, hfin.out, Ext.alloc (Below.refl _ _) _⟩
end Go.Proofs.YtbnmnkmjokcmfaaDoor
