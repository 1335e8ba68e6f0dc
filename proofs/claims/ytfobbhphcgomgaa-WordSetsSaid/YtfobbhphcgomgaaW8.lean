import Derived.Test.YtfobbhphcgomgaaW7
/- The laws' walks: each of the five functions returns true. -/
namespace Go.Proofs.Ytfobbhphcgomgaa
open Go.RowKit

set_option maxHeartbeats 1000000 in
theorem wordMatches_walk (W b : Int) (w : World) (h0 : 0 ≤ W) (h1 : W < 18446744073709551616) (h2 : 0 ≤ b) (h3 : b ≤ 255) :
    Calls Try.prog 4 #[.int .u64 W, .int .u8 b] w fun e w' => e = .returned (.bool true) ∧ Below w.heap.size w w' := by
  obtain ⟨W, rfl⟩ := Int.eq_ofNat_of_zero_le h0
  obtain ⟨b, rfl⟩ := Int.eq_ofNat_of_zero_le h2
  have c1 : Box (∀ w, Calls Try.prog 13 #[.int .u64 W, .int .u8 b] w fun e w' => e = .returned (.int .u8 (WM.rangeN W b b)) ∧ w = w') := ⟨fun w => by have := match_any W b w h0 h1 h2 h3; simpa [WM.match_range] using this⟩
  have c2 : Box (∀ w, Calls Try.prog 14 #[.int .u64 W, .int .u8 b, .int .u8 b] w fun e w' => e = .returned (.int .u8 (WM.rangeN W b b)) ∧ Below w.heap.size w w') := ⟨fun w => by have := refMatch_any W b b w h0 h1 h2 h3 h2 h3; simpa using this⟩
  have c3 : Box (∀ w, Calls Try.prog 15 #[.int .u64 W] w fun e w' => e = .returned (.int .u8 (WM.rangeN W 128 255)) ∧ w = w') := ⟨fun w => by have := high_any W w h0 h1; simpa [WM.high_range] using this⟩
  have c4 : Box (∀ w, Calls Try.prog 14 #[.int .u64 W, .int .u8 128, .int .u8 255] w fun e w' => e = .returned (.int .u8 (WM.rangeN W 128 255)) ∧ Below w.heap.size w w') := ⟨fun w => by have := refMatch_any W 128 255 w h0 h1 (by omega) (by omega) (by omega) (by omega); simpa using this⟩
  generalize WM.rangeN W b b = m1 at *
  generalize WM.rangeN W 128 255 = m2 at *
  have H1 : Box _ := ⟨h1⟩
  clear h1
  go_enter Try.func4, Try.ntmps4
  go_wp2_with (first | (go_at_call 13; (with_reducible refine (c1.out _).mono ?_); rintro e w' ⟨rfl, rfl⟩) | (go_at_call 14; (with_reducible refine (c2.out _).mono ?_); rintro e w1 ⟨rfl, hb1⟩) | (go_at_call 15; (with_reducible refine (c3.out _).mono ?_); rintro e w' ⟨rfl, rfl⟩) | (go_at_call 14; (with_reducible refine (c4.out _).mono ?_); rintro e w2 ⟨rfl, hb2⟩) | (go_at_call 11; (with_reducible refine (known_any _).mono ?_); rintro e w3 ⟨rfl, hb3⟩))
  go_ret
  exact ⟨rfl, (Ext.trans' hb1 hb2).trans' hb3⟩

set_option maxHeartbeats 1000000 in
theorem wordLanes_walk (W l b : Int) (w : World) (h0 : 0 ≤ W) (h1 : W < 18446744073709551616) (h2 : 0 ≤ b) (h3 : b ≤ 255) :
    Calls Try.prog 3 #[.int .u64 W, .int .i64 l, .int .u8 b] w fun e w' => e = .returned (.bool true) ∧ Below w.heap.size w w' := by
  obtain ⟨W, rfl⟩ := Int.eq_ofNat_of_zero_le h0
  obtain ⟨b, rfl⟩ := Int.eq_ofNat_of_zero_le h2
  by_cases hl : 0 ≤ l ∧ l ≤ 7
  · obtain ⟨l0, l1⟩ := hl
    have c1 : Box (∀ w, Calls Try.prog 8 #[.int .u64 W, .int .i64 l, .int .u8 b] w fun e w' => e = .returned (.tuple #[.int .u64 (WM.withN W l.toNat b), .int .i64 0]) ∧ ∃ q, w' = w.drewN q) := ⟨fun w => by have := with_any W l b w h0 h1 l0 l1 h2 h3; simpa using this⟩
    have c2 : Box (∀ w, Calls Try.prog 9 #[.int .u64 W, .int .i64 l, .int .u8 b] w fun e w' => e = .returned (.tuple #[.int .u64 (WM.withN W l.toNat b), .int .i64 0]) ∧ Below w.heap.size w w') := ⟨fun w => by have := refWith_any W l b w h0 h1 l0 l1 h2 h3; simpa using this⟩
    have c3 : Box (∀ w, Calls Try.prog 10 #[.int .u64 W, .int .i64 l] w fun e w' => e = .returned (.tuple #[.int .u8 (WM.lane W l.toNat), .int .i64 0]) ∧ w = w') := ⟨fun w => by have := lane_any W l w h0 h1 l0 l1; simpa using this⟩
    have c4 : Box (∀ w, Calls Try.prog 12 #[.int .u64 W, .int .i64 l] w fun e w' => e = .returned (.int .u8 (WM.lane W l.toNat)) ∧ w = w') := ⟨fun w => by have := refLane_any W l w h0 h1 l0 (by omega); simpa using this⟩
    generalize WM.withN W l.toNat b = m1 at *
    generalize WM.lane W l.toNat = m2 at *
    have H1 : Box _ := ⟨h1⟩
    clear h1
    go_enter Try.func3, Try.ntmps3
    go_wp2_with (first | (go_at_call 8; (with_reducible refine (c1.out _).mono ?_); rintro e w' ⟨rfl, q, rfl⟩) | (go_at_call 9; (with_reducible refine (c2.out _).mono ?_); rintro e w1 ⟨rfl, hb1⟩) | (go_at_call 10; (with_reducible refine (c3.out _).mono ?_); rintro e w' ⟨rfl, rfl⟩) | (go_at_call 12; (with_reducible refine (c4.out _).mono ?_); rintro e w' ⟨rfl, rfl⟩) | (go_at_call 11; (with_reducible refine (known_any _).mono ?_); rintro e w3 ⟨rfl, hb3⟩))
    go_ret
    exact ⟨rfl, Ext.trans' (b := w1) ((below_drewN (Below.refl _ _) _).trans hb1) hb3⟩
  · have hl' : l < 0 ∨ 7 < l := by omega
    have c1 : Box (∀ w, Calls Try.prog 8 #[.int .u64 W, .int .i64 l, .int .u8 b] w fun e w' => e = .returned (.tuple #[.int .u64 0, .int .i64 3]) ∧ w = w') := ⟨fun w => with_bad W l b w hl'⟩
    have c2 : Box (∀ w, Calls Try.prog 9 #[.int .u64 W, .int .i64 l, .int .u8 b] w fun e w' => e = .returned (.tuple #[.int .u64 0, .int .i64 3]) ∧ w = w') := ⟨fun w => refWith_bad W l b w hl'⟩
    have c3 : Box (∀ w, Calls Try.prog 10 #[.int .u64 W, .int .i64 l] w fun e w' => e = .returned (.tuple #[.int .u8 0, .int .i64 3]) ∧ w = w') := ⟨fun w => lane_bad W l w hl'⟩
    clear h1 hl hl'
    go_enter Try.func3, Try.ntmps3
    go_wp2_with (first | (go_at_call 8; (with_reducible refine (c1.out _).mono ?_); rintro e w' ⟨rfl, rfl⟩) | (go_at_call 9; (with_reducible refine (c2.out _).mono ?_); rintro e w' ⟨rfl, rfl⟩) | (go_at_call 10; (with_reducible refine (c3.out _).mono ?_); rintro e w' ⟨rfl, rfl⟩) | (go_at_call 11; (with_reducible refine (known_any _).mono ?_); rintro e w3 ⟨rfl, hb3⟩))
    go_ret
    exact ⟨rfl, hb3⟩

theorem eql_A8 (l : Nat → Nat) (w : World) : (Go.binOp .eql 47 (A8 l) (A8 l)).run Try.prog w = .ok (.bool true) w := by
  have u3 := Try.underlying5
  have a3 := Try.isAgg5
  have z3 := Try.sizeOf5
  unfold A8
  rw [run_eql_struct, show (10000:Nat) = 9999+1 from rfl, Op.equalIn]
  simp only [Sem.run_bind, run_underlying Try.underlying47, Result.andThen_ok]
  simp only [Std.Legacy.Range.forIn_eq_forIn_range', Std.Legacy.Range.size, Nat.sub_zero, Nat.add_sub_cancel, Nat.div_one, List.range'_succ, List.range'_zero, List.forIn_cons, List.forIn_nil]
  go_simp

set_option maxHeartbeats 1000000 in
theorem wordLoads_walk (a : Option Addr) (n c : Nat) (W b : Int) (l : Nat → Nat) (w : World) (hm : n ≤ 9223372036854775807) (hl : ∀ i, l i < 256)
    (hc : ∀ j, j < n → ∃ bl o, a = some ⟨bl, o, none⟩ ∧ w.cell? ⟨bl, o + j, none⟩ = some (.int .u8 (l j))) (h0 : 0 ≤ W) (h1 : W < 18446744073709551616) (h2 : 0 ≤ b) (h3 : b ≤ 255) :
    Calls Try.prog 6 #[.slice a n c, .int .u64 W, .int .u8 b] w fun e w' => e = .returned (.bool true) ∧ Below w.heap.size w w' := by
  by_cases hbig : 40 < n
  · clear h1
    go_enter Try.func6, Try.ntmps6
    go_wp2_with (first | (go_at_call 11; (with_reducible refine (known_any _).mono ?_); rintro e w3 ⟨rfl, hb3⟩))
    go_ret
    exact ⟨rfl, hb3⟩
  have c5 : Box (∀ w, Calls Try.prog 22 #[.int .u64 W] w fun e w' => e = .returned (A8 (WM.lane W.toNat)) ∧ Below w.heap.size w w') := ⟨fun w => bytes_any W w h0 h1⟩
  have c6 : Box (∀ w, Calls Try.prog 23 #[.int .u64 W] w fun e w' => e = .returned (A8 (WM.lane W.toNat)) ∧ Below w.heap.size w w') := ⟨fun w => refBytes_any W w h0 h1⟩
  have c7 : Box (∀ w, Calls Try.prog 24 #[.int .u8 b] w fun e w' => e = .returned (.int .u64 (repI b)) ∧ w = w') := ⟨fun w => repeat_any b w h2 h3⟩
  have c8 : Box (∀ w, Calls Try.prog 25 #[.int .u8 b] w fun e w' => e = .returned (.int .u64 (repI b)) ∧ Below w.heap.size w w') := ⟨fun w => refRepeat_any b w h2 h3⟩
  have heq := eql_A8 (WM.lane W.toNat)
  generalize WM.lane W.toNat = lw at *
  generalize repI b = rb at *
  clear h1
  obtain ⟨xs, hxs⟩ : ∃ xs, A8 lw = .agg xs := ⟨_, rfl⟩
  rw [hxs] at heq c5 c6
  clear hxs
  have hguard : Try.prog.eqGuardType Try.prog.depth 47 = false := by kernel_rfl
  have heg := fun (x y : Operand) (w : World) => run_eqGuard_agg (P := Try.prog) w .eql 47 x y xs xs hguard
  clear hguard
  by_cases hs : n < 8
  · have c1 : Box (∀ w, Calls Try.prog 20 #[.slice a n c] w fun e w' => e = .returned (.tuple #[.int .u64 0, .int .i64 4]) ∧ w = w') := ⟨fun w => load_short a n c w hs⟩
    have c2 : Box (∀ w, Calls Try.prog 21 #[.slice a n c] w fun e w' => e = .returned (.tuple #[.int .u64 0, .int .i64 4]) ∧ w = w') := ⟨fun w => refLoad_short a n c w hs⟩
    clear hc
    go_enter Try.func6, Try.ntmps6
    go_wp2_with (first | (go_at_call 20; (with_reducible refine (c1.out _).mono ?_); rintro e w' ⟨rfl, rfl⟩) | (go_at_call 21; (with_reducible refine (c2.out _).mono ?_); rintro e w' ⟨rfl, rfl⟩) | (go_at_call 22; (with_reducible refine (c5.out _).mono ?_); rintro e w1 ⟨rfl, hb1⟩) | (go_at_call 23; (with_reducible refine (c6.out _).mono ?_); rintro e w2 ⟨rfl, hb2⟩) | (go_at_call 24; (with_reducible refine (c7.out _).mono ?_); rintro e w' ⟨rfl, rfl⟩) | (go_at_call 25; (with_reducible refine (c8.out _).mono ?_); rintro e w3 ⟨rfl, hb3⟩) | (go_at_call 11; (with_reducible refine (known_any _).mono ?_); rintro e w4 ⟨rfl, hb4⟩))
    go_ret
    exact ⟨rfl, Ext.trans' (Ext.trans' (Ext.trans' hb1 hb2) hb3) hb4⟩
  · obtain ⟨bl, o, rfl, -⟩ := hc 0 (by omega)
    have hcell : ∀ j, j < 8 → w.cell? ⟨bl, o + j, none⟩ = some (.int .u8 (l j)) := fun j hj => by
      obtain ⟨bl', o', he, h⟩ := hc j (by omega)
      cases he; exact h
    have c1 : Box (Calls Try.prog 20 #[.slice (some ⟨bl, o, none⟩) n c] w fun e w' => e = .returned (.tuple #[.int .u64 (WM.of8 l), .int .i64 0]) ∧ w = w') := ⟨load_any bl o n c l w hl (by omega) hm hcell⟩
    have c2 : Box (Calls Try.prog 21 #[.slice (some ⟨bl, o, none⟩) n c] w fun e w' => e = .returned (.tuple #[.int .u64 (WM.of8 l), .int .i64 0]) ∧ Below w.heap.size w w') := ⟨refLoad_any bl o n c l w hl (by omega) hm hcell⟩
    clear hc hcell
    generalize WM.of8 l = x at *
    go_enter Try.func6, Try.ntmps6
    go_wp2_with (first | (go_at_call 20; (with_reducible refine c1.out.mono ?_); rintro e w' ⟨rfl, rfl⟩) | (go_at_call 21; (with_reducible refine c2.out.mono ?_); rintro e w0 ⟨rfl, hb0⟩) | (go_at_call 22; (with_reducible refine (c5.out _).mono ?_); rintro e w1 ⟨rfl, hb1⟩) | (go_at_call 23; (with_reducible refine (c6.out _).mono ?_); rintro e w2 ⟨rfl, hb2⟩) | (go_at_call 24; (with_reducible refine (c7.out _).mono ?_); rintro e w' ⟨rfl, rfl⟩) | (go_at_call 25; (with_reducible refine (c8.out _).mono ?_); rintro e w3 ⟨rfl, hb3⟩) | (go_at_call 11; (with_reducible refine (known_any _).mono ?_); rintro e w4 ⟨rfl, hb4⟩))
    go_ret
    exact ⟨rfl, Ext.trans' (Ext.trans' (Ext.trans' (Ext.trans' hb0 hb1) hb2) hb3) hb4⟩

theorem lawWordMatches_walk (a0 a1 : Int) (W : World) (w0 : (Lit.int .u64 a0).wf = true) (w1 : (Lit.int .u8 a1).wf = true) :
    Calls Try.prog 4 #[.int .u64 a0, .int .u8 a1] W fun e W' => e = .returned (.bool true) ∧ Below W.heap.size W W' :=
  wordMatches_walk a0 a1 W (wf_u64 w0).1 (wf_u64 w0).2 (wf_u8 w1).1 (wf_u8 w1).2
theorem lawWordLanes_walk (a0 a1 a2 : Int) (W : World) (w0 : (Lit.int .u64 a0).wf = true) (_ : (Lit.int .i64 a1).wf = true) (w2 : (Lit.int .u8 a2).wf = true) :
    Calls Try.prog 3 #[.int .u64 a0, .int .i64 a1, .int .u8 a2] W fun e W' => e = .returned (.bool true) ∧ Below W.heap.size W W' :=
  wordLanes_walk a0 a1 a2 W (wf_u64 w0).1 (wf_u64 w0).2 (wf_u8 w2).1 (wf_u8 w2).2
theorem lawWordLoads_walk (v0 : Value) (a1 a2 : Int) (W : World) (h : IntsArg .u8 W v0) (w1 : (Lit.int .u64 a1).wf = true) (w2 : (Lit.int .u8 a2).wf = true) :
    Calls Try.prog 6 #[v0, .int .u64 a1, .int .u8 a2] W fun e W' => e = .returned (.bool true) ∧ Below W.heap.size W W' := by
  obtain ⟨a, n, c, zs, rfl, hz, hnc, hc, hwf, hcell⟩ := h
  have hz0 : ∀ i, 0 ≤ zs.getD i 0 ∧ zs.getD i 0 ≤ 255 := fun i => by
    rw [List.getD_eq_getElem?_getD]
    rcases Nat.lt_or_ge i zs.length with hi | hi
    · rw [List.getElem?_eq_getElem hi]; exact wf_u8 (hwf _ (List.getElem_mem hi))
    · rw [List.getElem?_eq_none hi]; exact ⟨by decide, by decide⟩
  refine wordLoads_walk a n c a1 a2 (fun i => (zs.getD i 0).toNat) W (by omega) (fun i => by have := hz0 i; omega) (fun j hj => ?_) (wf_u64 w1).1 (wf_u64 w1).2 (wf_u8 w2).1 (wf_u8 w2).2
  obtain ⟨b, o, ha, hb⟩ := hcell j (.int .u8 (zs.getD j 0)) (by rw [List.getElem?_map, List.getD_eq_getElem?_getD, List.getElem?_eq_getElem (by omega)]; rfl)
  refine ⟨b, o, ha, ?_⟩
  rw [hb, Int.toNat_of_nonneg (hz0 j).1]
end Go.Proofs.Ytfobbhphcgomgaa
