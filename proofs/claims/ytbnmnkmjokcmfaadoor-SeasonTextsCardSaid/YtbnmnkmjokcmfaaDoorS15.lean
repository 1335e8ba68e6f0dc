import Derived.Test.YtbnmnkmjokcmfaaDoorS14
import Derived.Test.YtbnmnkmjokcmfaaDoorSM
/- The law's own functions: valid, times, plus, power, sums, product, square, small. -/
namespace Go.Proofs.YtbnmnkmjokcmfaaDoor
open Go.RowKit
theorem cx2 {w : World} {B : Nat} {c0 c1 : Value} {T : TypeId} (h : w.heap[B]? = some (.cells #[c0, c1] T (0, 0))) :
    (w.cell? ⟨B, 0, none⟩ = some c0 ∧ w.cell? ⟨B, 1, none⟩ = some c1) ∧ w.frozen? ⟨B, 0, none⟩ = false ∧ w.frozen? ⟨B, 1, none⟩ = false := by
  refine ⟨⟨?_, ?_⟩, Lib.frozen_of_heap h 0, Lib.frozen_of_heap h 1⟩
  all_goals (rw [Lib.cell_of_heap h]; rfl)
theorem cells8_at {w : World} {B : Nat} {T : TypeId} {a b : Nat → Int} (h : w.heap[B]? = some (.cells (Cells8 a b) T (0, 0))) (k : Nat) (hk : k < 4) :
    (w.cell? ⟨B, k * 2, none⟩ = some (.int .i64 (a k)) ∧ w.cell? ⟨B, k * 2 + 1, none⟩ = some (.int .i64 (b k))) ∧ w.frozen? ⟨B, k * 2, none⟩ = false ∧ w.frozen? ⟨B, k * 2 + 1, none⟩ = false := by
  refine ⟨?_, Lib.frozen_of_heap h _, Lib.frozen_of_heap h _⟩
  rw [Lib.cell_of_heap h, Lib.cell_of_heap h]
  obtain rfl | rfl | rfl | rfl : k = 0 ∨ k = 1 ∨ k = 2 ∨ k = 3 := by omega
  all_goals exact ⟨rfl, rfl⟩
set_option maxHeartbeats 1000000 in
theorem ltimes_any (a b c d : Int) (w : World) (h1 : Lim (2 ^ 60) (a * c)) (h2 : Lim (2 ^ 60) (b * d)) (h3 : Lim (2 ^ 60) (a * d)) (h4 : Lim (2 ^ 60) (b * c)) :
    Calls Tryd.prog 21 #[(.agg #[.int .i64 (a), .int .i64 (b)]), (.agg #[.int .i64 (c), .int .i64 (d)])] w fun e w' => e = .returned (.agg #[.int .i64 (a * c - b * d), .int .i64 (a * d + b * c)]) ∧ Ext w w' := by
  unfold Lim at *
  have q1 : IntKind.i64.wrap (a * c) = a * c := by rw [IntKind.wrap_i64]; omega
  have q2 : IntKind.i64.wrap (b * d) = b * d := by rw [IntKind.wrap_i64]; omega
  have q3 : IntKind.i64.wrap (a * d) = a * d := by rw [IntKind.wrap_i64]; omega
  have q4 : IntKind.i64.wrap (b * c) = b * c := by rw [IntKind.wrap_i64]; omega
  have q5 : IntKind.i64.wrap (a * c - b * d) = a * c - b * d := by rw [IntKind.wrap_i64]; omega
  have q6 : IntKind.i64.wrap (a * d + b * c) = a * d + b * c := by rw [IntKind.wrap_i64]; omega
  have r1 : wrap64 (a * c - b * d) = a * c - b * d := by unfold wrap64; omega
  have r2 : wrap64 (a * d + b * c) = a * d + b * c := by unfold wrap64; omega
  clear h1 h2 h3 h4
  go_enter Tryd.func21, Tryd.ntmps21
  go_wp2
  refine bodyPost_ret (v := (.agg #[.int .i64 (a * c - b * d), .int .i64 (a * d + b * c)])) ?_ rfl ⟨rfl, ?_⟩
  · simp [results, Tryd.results21, go_sem]
  · go_grown
set_option maxHeartbeats 1000000 in
theorem lplus_any (a b c d : Int) (w : World) (h1 : Lim (2 ^ 62) (a + c)) (h2 : Lim (2 ^ 62) (b + d)) :
    Calls Tryd.prog 45 #[(.agg #[.int .i64 (a), .int .i64 (b)]), (.agg #[.int .i64 (c), .int .i64 (d)])] w fun e w' => e = .returned (.agg #[.int .i64 (a + c), .int .i64 (b + d)]) ∧ Ext w w' := by
  unfold Lim at *
  have q1 : IntKind.i64.wrap (a + c) = a + c := by rw [IntKind.wrap_i64]; omega
  have q2 : IntKind.i64.wrap (b + d) = b + d := by rw [IntKind.wrap_i64]; omega
  clear h1 h2
  go_enter Tryd.func45, Tryd.ntmps45
  go_wp2
  refine bodyPost_ret (v := (.agg #[.int .i64 (a + c), .int .i64 (b + d)])) ?_ rfl ⟨rfl, ?_⟩
  · simp [results, Tryd.results45, go_sem]
  · go_grown
set_option maxHeartbeats 1000000 in
theorem lsquare_any (x y : Int) (w : World) (hx : Lim (2 ^ 25) x) (hy : Lim (2 ^ 25) y) : Calls Tryd.prog 20 #[(.agg #[.int .i64 (x), .int .i64 (y)])] w fun e w' => e = .returned (.int .i64 (x * x + y * y)) ∧ Ext w w' := by
  have h1 : Lim (2 ^ 50) (x * x) := by
    unfold Lim at *
    have := pb (2 ^ 25) (2 ^ 25) (a := x) (c := x) (by simpa using hx) (by simpa using hx)
    simpa using this
  have h2 : Lim (2 ^ 50) (y * y) := by
    unfold Lim at *
    have := pb (2 ^ 25) (2 ^ 25) (a := y) (c := y) (by simpa using hy) (by simpa using hy)
    simpa using this
  unfold Lim at h1 h2
  have q1 : IntKind.i64.wrap (x * x) = x * x := by rw [IntKind.wrap_i64]; omega
  have q2 : IntKind.i64.wrap (y * y) = y * y := by rw [IntKind.wrap_i64]; omega
  have q3 : IntKind.i64.wrap (x * x + y * y) = x * x + y * y := by rw [IntKind.wrap_i64]; omega
  clear hx hy
  go_enter Tryd.func20, Tryd.ntmps20
  go_wp2
  go_ret
  exact ⟨ret_int (by first | rfl | (unfold wrap64; omega)), Ext.alloc (Below.refl _ _) _⟩
/-- are the parts from -200 to 200 -/
def smB (x y : Int) : Bool := decide (-200 ≤ x) && decide (x ≤ 200) && decide (-200 ≤ y) && decide (y ≤ 200)
set_option maxHeartbeats 1000000 in
theorem lsmall_any (x y : Int) (w : World) : Calls Tryd.prog 19 #[(.agg #[.int .i64 (x), .int .i64 (y)])] w fun e w' => e = .returned (.bool (smB x y)) ∧ Ext w w' := by
  have hb : ∃ z, z = smB x y := ⟨_, rfl⟩
  obtain ⟨z, hz⟩ := hb
  rw [← hz]
  unfold smB at hz
  by_cases h1 : -200 ≤ x
  · have d1 : decide (-200 ≤ x) = true := decide_eq_true h1
    by_cases h2 : x ≤ 200
    · have d2 : decide (x ≤ 200) = true := decide_eq_true h2
      by_cases h3 : -200 ≤ y
      · have d3 : decide (-200 ≤ y) = true := decide_eq_true h3
        rw [d1, d2, d3] at hz
        have HZ := Box.mk hz
        clear hz h1 h2 h3
        go_enter Tryd.func19, Tryd.ntmps19
        go_wp2
        go_ret
        exact ⟨ret_bool (by rw [HZ.out]; rfl), Ext.alloc (Below.refl _ _) _⟩
      · have d3 : decide (-200 ≤ y) = false := decide_eq_false h3
        rw [d1, d2, d3] at hz
        have HZ := Box.mk hz
        clear hz h1 h2 h3
        go_enter Tryd.func19, Tryd.ntmps19
        go_wp2
        go_ret
        exact ⟨ret_bool (by rw [HZ.out]; rfl), Ext.alloc (Below.refl _ _) _⟩
    · have d2 : decide (x ≤ 200) = false := decide_eq_false h2
      rw [d1, d2] at hz
      have HZ := Box.mk hz
      clear hz h1 h2
      go_enter Tryd.func19, Tryd.ntmps19
      go_wp2
      go_ret
      exact ⟨ret_bool (by rw [HZ.out]; rfl), Ext.alloc (Below.refl _ _) _⟩
  · have d1 : decide (-200 ≤ x) = false := decide_eq_false h1
    rw [d1] at hz
    have HZ := Box.mk hz
    clear hz h1
    go_enter Tryd.func19, Tryd.ntmps19
    go_wp2
    go_ret
    exact ⟨ret_bool (by rw [HZ.out]; rfl), Ext.alloc (Below.refl _ _) _⟩
set_option maxRecDepth 100000 in
set_option maxHeartbeats 4000000 in
theorem lvalid_any (a b : Nat → Int) (w : World) : Calls Tryd.prog 10 #[(.agg #[.int .i64 (a 0), .int .i64 (b 0), .int .i64 (a 1), .int .i64 (b 1), .int .i64 (a 2), .int .i64 (b 2), .int .i64 (a 3), .int .i64 (b 3)])] w fun e w' => e = .returned (.bool (allV a b 4)) ∧ Ext w w' := by
  have hA : Box ((w.alloc (.cells #[.int .i64 (a 0), .int .i64 (b 0), .int .i64 (a 1), .int .i64 (b 1), .int .i64 (a 2), .int .i64 (b 2), .int .i64 (a 3), .int .i64 (b 3)] 29)).heap[w.heap.size]? = some (.cells (Cells8 a b) 29 (0, 0))) := ⟨newblk w _⟩
  have hX : Box (Ext w (w.alloc (.cells #[.int .i64 (a 0), .int .i64 (b 0), .int .i64 (a 1), .int .i64 (b 1), .int .i64 (a 2), .int .i64 (b 2), .int .i64 (a 3), .int .i64 (b 3)] 29))) := ⟨Ext.alloc (Below.refl _ _) _⟩
  go_enter Tryd.func10, Tryd.ntmps10
  go_wp2
  go_loopw [3] (fun i wr => ∃ k : Nat, k ≤ 4 ∧ i = .int .i64 k ∧ Box (∀ j, j < k → gB (a j) (b j) = true) ∧ wr = w.alloc (.cells #[.int .i64 (a 0), .int .i64 (b 0), .int .i64 (a 1), .int .i64 (b 1), .int .i64 (a 2), .int .i64 (b 2), .int .i64 (a 3), .int .i64 (b 3)] 29)) (fun i _ => 4 - (intOf i).toNat)
  case atStart => exact ⟨0, by omega, rfl, ⟨fun j hj => by omega⟩, rfl⟩
  case round =>
    obtain ⟨k, hk, rfl, hv, rfl⟩ := hrel
    by_cases hkn : k < 4
    · obtain ⟨⟨m0, m1⟩, -⟩ := cells8_at hA.out k hkn
      have n1 : (0 : Int) ≤ (k : Int) := by omega
      have n2 : (k : Int) < 4 := by omega
      have n2' : decide ((k : Int) < 4) = true := decide_eq_true n2
      cases hg : gB (a k) (b k) with
      | true =>
        obtain ⟨d1, d2, d3, d4⟩ := gB_yes hg
        have hv1 := Box.mk (show ∀ j, j < k + 1 → gB (a j) (b j) = true from fun j hj => by
          by_cases hjk : j = k
          · subst hjk; exact hg
          · exact hv.out j (by omega))
        clear hg
        generalize a k = x at *
        generalize b k = y at *
        go_wp2
        go_roundw
        case rel => exact ⟨k + 1, by omega, by go_num, hv1, by first | rfl | trivial⟩
        case measure => simp [intOf]; omega
      | false =>
        have hf := Box.mk (allV_no hkn hg)
        rcases gB_not hg with d1 | ⟨d1, d2⟩ | ⟨d1, d2, d3⟩ | ⟨d1, d2, d3, d4⟩
        all_goals
          clear hg
          generalize a k = x at *
          generalize b k = y at *
          go_wp2
          go_ret
          exact ⟨ret_bool hf.out.symm, hX.out⟩
    · obtain rfl : k = 4 := by omega
      have hf := Box.mk (allV_iff.2 hv.out)
      go_wp2
      go_ret
      exact ⟨ret_bool hf.out.symm, hX.out⟩
theorem lpower_s (s : Int) (hs : s = 1 ∨ s = -1) (k : Nat) (hk : k < 4) (w : World) : Calls Tryd.prog 21 #[.agg #[.int .i64 (cr (s * k)), .int .i64 (ci (s * k))], .agg #[.int .i64 0, .int .i64 s]] w fun e w' => e = .returned (.agg #[.int .i64 (cr (s * (k + 1 : Nat))), .int .i64 (ci (s * (k + 1 : Nat)))]) ∧ Ext w w' := by
  have e1 : cr (s * (k + 1 : Nat)) = cr (s * k) * 0 - ci (s * k) * s ∧ ci (s * (k + 1 : Nat)) = cr (s * k) * s + ci (s * k) * 0 := by
    rcases hs with rfl | rfl <;> obtain rfl | rfl | rfl | rfl : k = 0 ∨ k = 1 ∨ k = 2 ∨ k = 3 := by omega
    all_goals exact ⟨rfl, rfl⟩
  rw [e1.1, e1.2]
  have k0 := cr_lim (s * k)
  refine ltimes_any _ _ _ _ w ?_ ?_ ?_ ?_
  all_goals
    unfold Lim
    rcases hs with rfl | rfl <;> rcases k0.1 with h | h | h <;> rcases k0.2 with h' | h' | h' <;> (try rw [h]) <;> (try rw [h']) <;> omega
set_option maxRecDepth 100000 in
set_option maxHeartbeats 4000000 in
theorem lpower_any (s : Int) (hs : s = 1 ∨ s = -1) (n : Nat) (hn : n < 4611686018427387904) (w : World) : Calls Tryd.prog 46 #[.int .i64 n, .int .i64 s] w fun e w' => e = .returned (.agg #[.int .i64 (cr (s * n)), .int .i64 (ci (s * n))]) ∧ Ext w w' := by
  have e0 : cr (s * n) = cr (s * (n % 4 : Nat)) ∧ ci (s * n) = ci (s * (n % 4 : Nat)) := by
    unfold cr ci
    have : (s * n) % 4 = (s * (n % 4 : Nat)) % 4 := by rcases hs with rfl | rfl <;> omega
    rw [this]; exact ⟨rfl, rfl⟩
  rw [e0.1, e0.2]
  have cT : Box (∀ (k : Nat) (w : World), k < 4 → _) := ⟨fun k w hk => lpower_s s hs k hk w⟩
  have q1 : (n : Int).tmod 4 = ((n % 4 : Nat) : Int) := rfl
  have q2 : (n : Int) % 4 = ((n % 4 : Nat) : Int) := by omega
  have hr : n % 4 < 4 := Nat.mod_lt _ (by decide)
  have q3 : IntKind.i64.wrap ((n % 4 : Nat) : Int) = ((n % 4 : Nat) : Int) := by rw [IntKind.wrap_i64]; omega
  have c0 : cr (s * (0 : Nat)) = 1 ∧ ci (s * (0 : Nat)) = 0 := by rcases hs with rfl | rfl <;> exact ⟨rfl, rfl⟩
  have C0 := Box.mk c0
  clear e0 hs hn c0
  generalize n % 4 = r at *
  go_enter Tryd.func46, Tryd.ntmps46
  go_wp2
  go_loopw [6] (fun i wr => ∃ k : Nat, k ≤ r ∧ i = .int .i64 k ∧ Box (wr.heap[w.heap.size + 1]? = some (.cells #[.int .i64 (cr (s * k)), .int .i64 (ci (s * k))] 23 (0, 0))) ∧ Box (wr.heap[w.heap.size]? = some (.cells #[.int .i64 0, .int .i64 0] 23 (0, 0))) ∧ Box (Ext w wr)) (fun i _ => r - (intOf i).toNat)
  case atStart =>
    refine ⟨0, by omega, rfl, ⟨?_⟩, ⟨?_⟩, ⟨by go_grown⟩⟩
    · rw [C0.out.1, C0.out.2]
      have h := newblk (w.alloc (.cells #[.int .i64 (0), .int .i64 (0)] 23)) (.cells #[.int .i64 (1), .int .i64 (0)] 23)
      rw [show (w.alloc (.cells #[.int .i64 (0), .int .i64 (0)] 23)).heap.size = w.heap.size + 1 by simp] at h
      exact h
    · exact Ext.blk (Ext.alloc (Below.refl _ _) _) (newblk w _)
  case round =>
    obtain ⟨k, hk, rfl, hB, hR, hE⟩ := hrel
    by_cases hkr : k < r
    · have n1 : (0 : Int) ≤ (k : Int) := by omega
      have n2 : (k : Int) < (r : Int) := by omega
      have n2' : decide ((k : Int) < (r : Int)) = true := decide_eq_true n2
      obtain ⟨⟨m0, m1⟩, z0, z1⟩ := cx2 hB.out
      have cTk := Box.mk (fun w => cT.out k w (by omega))
      clear cT
      generalize cr (s * k) = x at *
      generalize ci (s * k) = y at *
      generalize hx1 : cr (s * (k + 1 : Nat)) = x' at *
      generalize hy1 : ci (s * (k + 1 : Nat)) = y' at *
      have HX1 := Box.mk hx1
      have HY1 := Box.mk hy1
      clear hx1 hy1
      go_wp2_with (first
        | (go_at_call 21; (with_reducible refine (cTk.out _).mono ?_); rintro e w1 ⟨rfl, hb⟩; have hE1 := Box.mk (Ext.trans' hE.out hb); have hB1 := Box.mk (Ext.blk hb hB.out); have hR1 := Box.mk (Ext.blk hb hR.out); clear m0 m1 z0 z1; obtain ⟨⟨m0, m1⟩, z0, z1⟩ := cx2 hB1.out; clear hb))
      go_roundw
      case rel =>
        refine ⟨k + 1, by omega, by go_num, ⟨?_⟩, ⟨?_⟩, ⟨?_⟩⟩
        · rw [HX1.out, HY1.out]
          exact heap_setCell_same _ (w.heap.size + 1) 1 _ _ _ (heap_setCell_same _ (w.heap.size + 1) 0 _ _ _ hB1.out)
        · exact (heap_setCell_other _ _ _ _ (by show w.heap.size ≠ w.heap.size + 1; omega)).trans ((heap_setCell_other _ _ _ _ (by show w.heap.size ≠ w.heap.size + 1; omega)).trans hR1.out)
        · exact Ext.set (Ext.set hE1.out (by omega) _ _) (by omega) _ _
      case measure => simp [intOf]; omega
    · obtain rfl : k = r := by omega
      obtain ⟨⟨m0, m1⟩, -⟩ := cx2 hB.out
      obtain ⟨⟨o0, o1⟩, z0, z1⟩ := cx2 hR.out
      generalize hx1 : cr (s * k) = x at *
      generalize hy1 : ci (s * k) = y at *
      have HX1 := Box.mk hx1
      have HY1 := Box.mk hy1
      clear hx1 hy1
      go_wp2
      refine bodyPost_ret (v := (.agg #[.int .i64 (x), .int .i64 (y)])) ?_ rfl ⟨by rw [← HX1.out, ← HY1.out], Ext.set (Ext.set hE.out (by omega) _ _) (by omega) _ _⟩
      simp [results, Tryd.results46, go_sem, o0, o1]
end Go.Proofs.YtbnmnkmjokcmfaaDoor
