import Derived.Test.YtbhfpofcebepiaaB21
/- Contracts: belady.Hits; the law's helpers. -/
namespace Go.Proofs.Ytbhfpofcebepiaa
open Go.RowKit
def LG : List Nat := [1, 2, 3, 1, 4, 2, 1, 3]
theorem nilCells (w : World) (f : TnB → List Value) : CellsAt w none (rows f []) := by
  intro j u hj
  simp [rows] at hj
theorem Hits_bad (a : Option Addr) (n c : Nat) (size : Int) (w : World) (h : allB n 4096 size ≠ 0) :
    Calls Try.prog 14 #[.slice a n c, .int .i64 size] w fun e w' => e = .returned (.tuple #[.int .i64 0, .int .i64 (allB n 4096 size)]) ∧ Ext w w' := by
  have c1 : Box _ := ⟨Turns_bad a n c size w h⟩
  have c2 : Box (∀ w, Calls Try.prog 38 #[.slice none 0 0] w fun e w' => e = .returned (.int .i64 0) ∧ Ext w w') := ⟨fun w => count_any none 0 [] w (by simp) (nilCells w _)⟩
  generalize allB n 4096 size = e0 at *
  clear h
  go_enter Try.func14, Try.ntmps14
  go_wp2_with (first
    | (go_at_call 13; (with_reducible refine (c1.out).mono ?_); rintro e w' ⟨rfl, hx1⟩)
    | (go_at_call 38; (with_reducible refine (c2.out _).mono ?_); rintro e w2 ⟨rfl, hx2⟩))
  go_ret2
  exact ⟨rfl, Ext.trans' hx1 hx2⟩
theorem Hits_ok (a : Option Addr) (c : Nat) (L : List Nat) (k : Nat) (w : World) (hL : L.length ≤ 4096) (h1 : 1 ≤ k) (h2 : k ≤ 1024) (hC : CellsAt w a (u32L L)) :
    Calls Try.prog 14 #[.slice a L.length c, .int .i64 (k : Nat)] w fun e w' => e = .returned (.tuple #[.int .i64 (optH L k L.length : Nat), .int .i64 0]) ∧ Ext w w' := by
  have hlen : (optTs L k).length = L.length := by simp [optTs]
  have hop := (opt_pol L k h1 L.length (Nat.le_refl _)).2.2.1
  have c1 : Box _ := ⟨Turns_ok a c L k w hL h1 h2 hC⟩
  have c2 : Box (∀ a' c' w, CellsAt w a' (rows TnB.cs (optTs L k)) → Calls Try.prog 38 #[.slice a' L.length c'] w fun e w' => e = .returned (.int .i64 (optH L k L.length : Nat)) ∧ Ext w w') := ⟨fun a' c' w hc => by
    have := count_any a' c' (optTs L k) w (by rw [hlen]; omega) hc
    rw [hlen, hop] at this
    exact this⟩
  clear hC hop hlen
  generalize optH L k L.length = z at *
  go_enter Try.func14, Try.ntmps14
  go_wp2_with (first
    | (go_at_call 13; (with_reducible refine (c1.out).mono ?_); rintro e w' ⟨a', c', rfl, hc1, hx1⟩; replace hc1 := Box.mk hc1)
    | (go_at_call 38; (with_reducible refine (c2.out _ _ _ hc1.out).mono ?_); rintro e w2 ⟨rfl, hx2⟩))
  go_ret2
  exact ⟨rfl, Ext.trans' hx1 hx2⟩
theorem given_any (w : World) : Calls Try.prog 26 #[] w fun e w' => ∃ a c, e = .returned (.slice a 8 c) ∧ CellsAt w' a (u32L LG) ∧ Ext w w' := by
  go_enter Try.func26, Try.ntmps26
  go_wp2
  go_ret
  refine ⟨_, _, rfl, fun j u hj => ⟨w.heap.size, 0, rfl, ?_⟩, by go_grown⟩
  rw [Nat.zero_add, Lib.cell_of_heap (newblk w _), ← Array.getElem?_toList]
  exact hj
theorem gives_any (n e want : Int) (w : World) : Calls Try.prog 21 #[.int .i64 n, .int .i64 e, .int .i64 want] w fun r w' => r = .returned (.bool (decide (n = want ∧ e = 0))) ∧ w = w' := by
  by_cases h1 : n = want
  · subst h1
    by_cases h2 : e = 0
    · subst h2
      rw [show decide (n = n ∧ (0 : Int) = 0) = true by simp]
      go_enter Try.func21, Try.ntmps21
      go_wp2
      go_ret
      exact ⟨rfl, rfl⟩
    · have d2 : (e == 0) = false := by rw [beq_eq_false_iff_ne]; exact h2
      rw [show decide (n = n ∧ e = 0) = false by simp [h2]]
      clear h2
      go_enter Try.func21, Try.ntmps21
      go_wp2
      go_ret
      exact ⟨rfl, rfl⟩
  · have d1 : (n == want) = false := by rw [beq_eq_false_iff_ne]; exact h1
    rw [show decide (n = want ∧ e = 0) = false by simp [h1]]
    clear h1
    go_enter Try.func21, Try.ntmps21
    go_wp2
    go_ret
    exact ⟨rfl, rfl⟩
theorem lhits_any (k : Nat) (want : Int) (h1 : 1 ≤ k) (h2 : k ≤ 1024) (hw : ((optH LG k 8 : Nat) : Int) = want) (w : World) : Calls Try.prog 27 #[.int .i64 (k : Nat), .int .i64 want] w fun e w' => e = .returned (.bool true) ∧ Ext w w' := by
  have c0 : Box _ := ⟨given_any w⟩
  have c1 : Box (∀ a c w, CellsAt w a (u32L LG) → Calls Try.prog 14 #[.slice a 8 c, .int .i64 (k : Nat)] w fun e w' => e = .returned (.tuple #[.int .i64 want, .int .i64 0]) ∧ Ext w w') := ⟨fun a c w hc => by
    rw [← hw]
    exact Hits_ok a c LG k w (by decide) h1 h2 hc⟩
  have c2 : Box (∀ w, _) := ⟨fun w => gives_any want 0 want w⟩
  rw [show decide (want = want ∧ (0 : Int) = 0) = true by simp] at c2
  clear hw
  go_enter Try.func27, Try.ntmps27
  go_wp2_with (first
    | (go_at_call 26; (with_reducible refine (c0.out).mono ?_); rintro e w1 ⟨a', c', rfl, hc1, hx1⟩; replace hc1 := Box.mk hc1)
    | (go_at_call 14; (with_reducible refine (c1.out _ _ _ hc1.out).mono ?_); rintro e w2 ⟨rfl, hx2⟩)
    | (go_at_call 21; (with_reducible refine (c2.out _).mono ?_); rintro e w3 ⟨rfl, rfl⟩))
  go_ret
  exact ⟨rfl, Ext.trans' hx1 hx2⟩
theorem lbest_any (k : Nat) (want : Int) (h1 : 1 ≤ k) (h2 : k ≤ 1024) (hw : ((optH LG k 8 : Nat) : Int) = want) (w : World) : Calls Try.prog 28 #[.int .i64 (k : Nat), .int .i64 want] w fun e w' => e = .returned (.bool true) ∧ Ext w w' := by
  have c0 : Box _ := ⟨given_any w⟩
  have c1 : Box (∀ a c w, CellsAt w a (u32L LG) → Calls Try.prog 22 #[.slice a 8 c, .int .i64 (k : Nat)] w fun e w' => e = .returned (.tuple #[.int .i64 want, .int .i64 0]) ∧ Ext w w') := ⟨fun a c w hc => by
    rw [← hw]
    exact Best_ok a c LG k w (by decide) h1 h2 hc⟩
  have c2 : Box (∀ w, _) := ⟨fun w => gives_any want 0 want w⟩
  rw [show decide (want = want ∧ (0 : Int) = 0) = true by simp] at c2
  clear hw
  go_enter Try.func28, Try.ntmps28
  go_wp2_with (first
    | (go_at_call 26; (with_reducible refine (c0.out).mono ?_); rintro e w1 ⟨a', c', rfl, hc1, hx1⟩; replace hc1 := Box.mk hc1)
    | (go_at_call 22; (with_reducible refine (c1.out _ _ _ hc1.out).mono ?_); rintro e w2 ⟨rfl, hx2⟩)
    | (go_at_call 21; (with_reducible refine (c2.out _).mono ?_); rintro e w3 ⟨rfl, rfl⟩))
  go_ret
  exact ⟨rfl, Ext.trans' hx1 hx2⟩
theorem lout_any (o : Int) (w : World) : Calls Try.prog 25 #[.int .u32 o] w fun e w' => e = .returned (.agg #[.bool false, .bool true, .int .u32 o]) ∧ Ext w w' := by
  go_enter Try.func25, Try.ntmps25
  go_wp2
  refine bodyPost_ret (v := .agg #[.bool false, .bool true, .int .u32 o]) ?_ rfl ⟨rfl, Ext.alloc (Below.refl _ _) _⟩
  simp [results, Try.results25, go_sem]
end Go.Proofs.Ytbhfpofcebepiaa
