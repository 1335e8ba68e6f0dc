import Derived.Test.YtbnmnkmjokcmfaaDoorS15
/- The law's own sums and product. -/
namespace Go.Proofs.YtbnmnkmjokcmfaaDoor
open Go.RowKit
theorem w3 (w : World) (a b : Nat → Int) : Ext w (((w.alloc (.cells #[.int .i64 (a 0), .int .i64 (b 0), .int .i64 (a 1), .int .i64 (b 1), .int .i64 (a 2), .int .i64 (b 2), .int .i64 (a 3), .int .i64 (b 3)] 29)).alloc (.cells #[.int .i64 0, .int .i64 0, .int .i64 0, .int .i64 0, .int .i64 0, .int .i64 0, .int .i64 0, .int .i64 0] 29)).alloc (.cells #[.int .i64 0, .int .i64 0, .int .i64 0, .int .i64 0, .int .i64 0, .int .i64 0, .int .i64 0, .int .i64 0] 29)) ∧ (((w.alloc (.cells #[.int .i64 (a 0), .int .i64 (b 0), .int .i64 (a 1), .int .i64 (b 1), .int .i64 (a 2), .int .i64 (b 2), .int .i64 (a 3), .int .i64 (b 3)] 29)).alloc (.cells #[.int .i64 0, .int .i64 0, .int .i64 0, .int .i64 0, .int .i64 0, .int .i64 0, .int .i64 0, .int .i64 0] 29)).alloc (.cells #[.int .i64 0, .int .i64 0, .int .i64 0, .int .i64 0, .int .i64 0, .int .i64 0, .int .i64 0, .int .i64 0] 29)).heap[w.heap.size]? = some (.cells #[.int .i64 (a 0), .int .i64 (b 0), .int .i64 (a 1), .int .i64 (b 1), .int .i64 (a 2), .int .i64 (b 2), .int .i64 (a 3), .int .i64 (b 3)] 29 (0, 0)) ∧ (((w.alloc (.cells #[.int .i64 (a 0), .int .i64 (b 0), .int .i64 (a 1), .int .i64 (b 1), .int .i64 (a 2), .int .i64 (b 2), .int .i64 (a 3), .int .i64 (b 3)] 29)).alloc (.cells #[.int .i64 0, .int .i64 0, .int .i64 0, .int .i64 0, .int .i64 0, .int .i64 0, .int .i64 0, .int .i64 0] 29)).alloc (.cells #[.int .i64 0, .int .i64 0, .int .i64 0, .int .i64 0, .int .i64 0, .int .i64 0, .int .i64 0, .int .i64 0] 29)).heap[w.heap.size + 1]? = some (.cells #[.int .i64 0, .int .i64 0, .int .i64 0, .int .i64 0, .int .i64 0, .int .i64 0, .int .i64 0, .int .i64 0] 29 (0, 0)) ∧ (((w.alloc (.cells #[.int .i64 (a 0), .int .i64 (b 0), .int .i64 (a 1), .int .i64 (b 1), .int .i64 (a 2), .int .i64 (b 2), .int .i64 (a 3), .int .i64 (b 3)] 29)).alloc (.cells #[.int .i64 0, .int .i64 0, .int .i64 0, .int .i64 0, .int .i64 0, .int .i64 0, .int .i64 0, .int .i64 0] 29)).alloc (.cells #[.int .i64 0, .int .i64 0, .int .i64 0, .int .i64 0, .int .i64 0, .int .i64 0, .int .i64 0, .int .i64 0] 29)).heap[w.heap.size + 2]? = some (.cells #[.int .i64 0, .int .i64 0, .int .i64 0, .int .i64 0, .int .i64 0, .int .i64 0, .int .i64 0, .int .i64 0] 29 (0, 0)) := by
  obtain ⟨h1, h2, h3⟩ := w8 w a b
  generalize hv : ((w.alloc (.cells #[.int .i64 (a 0), .int .i64 (b 0), .int .i64 (a 1), .int .i64 (b 1), .int .i64 (a 2), .int .i64 (b 2), .int .i64 (a 3), .int .i64 (b 3)] 29)).alloc (.cells #[.int .i64 0, .int .i64 0, .int .i64 0, .int .i64 0, .int .i64 0, .int .i64 0, .int .i64 0, .int .i64 0] 29)) = v at *
  have hs : v.heap.size = w.heap.size + 2 := by rw [← hv]; simp
  have x : Ext v (v.alloc (.cells #[.int .i64 0, .int .i64 0, .int .i64 0, .int .i64 0, .int .i64 0, .int .i64 0, .int .i64 0, .int .i64 0] 29)) := Ext.alloc (Below.refl _ _) _
  have h4 := newblk v (.cells #[.int .i64 0, .int .i64 0, .int .i64 0, .int .i64 0, .int .i64 0, .int .i64 0, .int .i64 0, .int .i64 0] 29)
  rw [hs] at h4
  exact ⟨Ext.trans' h1 x, Ext.blk x h2, Ext.blk x h3, h4⟩
/-- a sum's numbers while number k is summed up to n -/
def so (f : Nat → Nat → Int) (k n m : Nat) : Int := if m < k then f m 4 else if m = k then f k n else 0
theorem so_zero (f : Nat → Nat → Int) (h : ∀ m, f m 0 = 0) (m : Nat) : so f 0 0 m = 0 := by
  unfold so
  rw [if_neg (Nat.not_lt_zero m)]
  split
  · exact h 0
  · rfl
theorem so_next (f : Nat → Nat → Int) (h : ∀ m, f m 0 = 0) (k : Nat) : so f k 4 = so f (k + 1) 0 := by
  funext m
  unfold so
  by_cases h1 : m < k
  · rw [if_pos h1, if_pos (by omega)]
  · rw [if_neg h1]
    by_cases h2 : m = k
    · subst h2; rw [if_pos rfl, if_pos (by omega)]
    · rw [if_neg h2, if_neg (by omega)]
      split
      · exact (h _).symm
      · rfl
theorem so_at (f : Nat → Nat → Int) (k n : Nat) : so f k n k = f k n := by unfold so; rw [if_neg (by omega), if_pos rfl]
theorem so_step (f g : Nat → Nat → Int) (k n : Nat) (hk : k < 4) : Cells8 (so f k (n + 1)) (so g k (n + 1)) = ((Cells8 (so f k n) (so g k n)).setIfInBounds (k * 2) (.int .i64 (f k (n + 1)))).setIfInBounds (k * 2 + 1) (.int .i64 (g k (n + 1))) := by
  rw [cells8_set _ _ _ _ _ hk]
  refine cells8_eq fun m _ => ?_
  unfold so
  by_cases h : m = k
  · subst h; simp
  · simp [h]
theorem so_four (f : Nat → Nat → Int) (m : Nat) (hm : m < 4) : so f 4 0 m = f m 4 := by unfold so; rw [if_pos hm]
set_option maxRecDepth 100000 in
set_option maxHeartbeats 8000000 in
theorem lsums_any (s : Int) (hs : s = 1 ∨ s = -1) (a b : Nat → Int) (hL : ∀ j, j < 4 → Lim (2 ^ 44) (a j) ∧ Lim (2 ^ 44) (b j)) (w : World) :
    Calls Tryd.prog 17 #[(.agg #[.int .i64 (a 0), .int .i64 (b 0), .int .i64 (a 1), .int .i64 (b 1), .int .i64 (a 2), .int .i64 (b 2), .int .i64 (a 3), .int .i64 (b 3)]), .int .i64 s] w fun e w' => e = .returned (.agg (Cells8 (fun k => sR s a b k 4) (fun k => sI s a b k 4))) ∧ Ext w w' := by
  obtain ⟨hx, hA, hR, hB⟩ := w3 w a b
  have HX := Box.mk hx
  have HA : Box ((((w.alloc (.cells #[.int .i64 (a 0), .int .i64 (b 0), .int .i64 (a 1), .int .i64 (b 1), .int .i64 (a 2), .int .i64 (b 2), .int .i64 (a 3), .int .i64 (b 3)] 29)).alloc (.cells #[.int .i64 0, .int .i64 0, .int .i64 0, .int .i64 0, .int .i64 0, .int .i64 0, .int .i64 0, .int .i64 0] 29)).alloc (.cells #[.int .i64 0, .int .i64 0, .int .i64 0, .int .i64 0, .int .i64 0, .int .i64 0, .int .i64 0, .int .i64 0] 29)).heap[w.heap.size]? = some (.cells (Cells8 a b) 29 (0, 0))) := ⟨hA⟩
  have HR := Box.mk hR
  have HB : Box ((((w.alloc (.cells #[.int .i64 (a 0), .int .i64 (b 0), .int .i64 (a 1), .int .i64 (b 1), .int .i64 (a 2), .int .i64 (b 2), .int .i64 (a 3), .int .i64 (b 3)] 29)).alloc (.cells #[.int .i64 0, .int .i64 0, .int .i64 0, .int .i64 0, .int .i64 0, .int .i64 0, .int .i64 0, .int .i64 0] 29)).alloc (.cells #[.int .i64 0, .int .i64 0, .int .i64 0, .int .i64 0, .int .i64 0, .int .i64 0, .int .i64 0, .int .i64 0] 29)).heap[w.heap.size + 2]? = some (.cells (Cells8 (so (sR s a b) 0 0) (so (sI s a b) 0 0)) 29 (0, 0))) := ⟨by
    rw [cells8_eq (c := fun _ => 0) (d := fun _ => 0) fun m _ => ⟨so_zero (sR s a b) (fun _ => rfl) m, so_zero (sI s a b) (fun _ => rfl) m⟩]
    exact hB⟩
  have cP : Box (∀ (j k : Nat) (w : World), j < 4 → k < 4 → Calls Tryd.prog 46 #[.int .i64 ((j : Int) * (k : Int)), .int .i64 s] w fun e w' => e = .returned (.agg #[.int .i64 (cr (s * j * k)), .int .i64 (ci (s * j * k))]) ∧ Ext w w') := ⟨fun j k w hj hk => by
    have h := lpower_any s hs (j * k) (Nat.lt_of_le_of_lt (Nat.mul_le_mul (show j ≤ 4 by omega) (show k ≤ 4 by omega)) (by decide)) w
    rw [Int.natCast_mul, ← Int.mul_assoc] at h
    exact h⟩
  have HL := Box.mk hL
  clear hx hA hR hB hL hs
  go_enter Tryd.func17, Tryd.ntmps17
  go_wp2
  go_loopw [6] (fun i wr => ∃ k : Nat, k ≤ 4 ∧ i = .int .i64 k ∧ Box (wr.heap[w.heap.size + 2]? = some (.cells (Cells8 (so (sR s a b) k 0) (so (sI s a b) k 0)) 29 (0, 0))) ∧ Box (wr.heap[w.heap.size]? = some (.cells (Cells8 a b) 29 (0, 0))) ∧ Box (wr.heap[w.heap.size + 1]? = some (.cells #[.int .i64 0, .int .i64 0, .int .i64 0, .int .i64 0, .int .i64 0, .int .i64 0, .int .i64 0, .int .i64 0] 29 (0, 0))) ∧ Box (Ext w wr)) (fun i _ => 4 - (intOf i).toNat)
  case atStart => exact ⟨0, by omega, rfl, HB, HA, HR, HX⟩
  case round =>
    obtain ⟨k, hk, rfl, hB, hA, hR, hE⟩ := hrel
    by_cases hk4 : k < 4
    · have n1 : (0 : Int) ≤ (k : Int) := by omega
      have n2 : (k : Int) < 4 := by omega
      have n2' : decide ((k : Int) < 4) = true := decide_eq_true n2
      go_wp2
      go_loopw [7] (fun i wx => ∃ j : Nat, j ≤ 4 ∧ i = .int .i64 j ∧ Box (wx.heap[w.heap.size + 2]? = some (.cells (Cells8 (so (sR s a b) k j) (so (sI s a b) k j)) 29 (0, 0))) ∧ Box (wx.heap[w.heap.size]? = some (.cells (Cells8 a b) 29 (0, 0))) ∧ Box (wx.heap[w.heap.size + 1]? = some (.cells #[.int .i64 0, .int .i64 0, .int .i64 0, .int .i64 0, .int .i64 0, .int .i64 0, .int .i64 0, .int .i64 0] 29 (0, 0))) ∧ Box (Ext w wx)) (fun i _ => 4 - (intOf i).toNat)
      case atStart => exact ⟨0, by omega, rfl, hB, hA, hR, hE⟩
      case round =>
        obtain ⟨j, hj, rfl, hB1, hA1, hR1, hE1⟩ := hrel
        by_cases hj4 : j < 4
        · have hl := HL.out j hj4
          obtain ⟨q1, q2, q3, q4⟩ := t_lim hl.1 hl.2 (cr_lim (s * j * k)).1 (cr_lim (s * j * k)).2
          obtain ⟨q5, q6⟩ := s_lim (s := s) k HL.out j hj
          obtain ⟨q7, q8⟩ := s_lim (s := s) k HL.out (j + 1) (by omega)
          have cP1 : Box (∀ w, _) := ⟨fun w => cP.out j k w hj4 hk4⟩
          have cT1 : Box (∀ w, _) := ⟨fun w => ltimes_any (a j) (b j) (cr (s * j * k)) (ci (s * j * k)) w (by unfold Lim at *; omega) (by unfold Lim at *; omega) (by unfold Lim at *; omega) (by unfold Lim at *; omega)⟩
          have cQ1 : Box (∀ w, _) := ⟨fun w => lplus_any (sR s a b k j) (sI s a b k j) (a j * cr (s * j * k) - b j * ci (s * j * k)) (a j * ci (s * j * k) + b j * cr (s * j * k)) w (by unfold Lim at *; omega) (by unfold Lim at *; omega)⟩
          have wr1 : IntKind.i64.wrap ((j : Int) * (k : Int)) = (j : Int) * (k : Int) := by
            have := pb 3 3 (a := (j : Int)) (c := (k : Int)) (by omega) (by omega)
            rw [IntKind.wrap_i64]; omega
          obtain ⟨⟨m0, m1⟩, z0, z1⟩ := cells8_at hB1.out k hk4
          obtain ⟨⟨m2, m3⟩, -⟩ := cells8_at hA1.out j hj4
          rw [so_at] at m0 m1
          have hst := Box.mk (so_step (sR s a b) (sI s a b) k j hk4)
          have hu : Box (sR s a b k (j + 1) = sR s a b k j + (a j * cr (s * j * k) - b j * ci (s * j * k))) := ⟨rfl⟩
          have hv : Box (sI s a b k (j + 1) = sI s a b k j + (a j * ci (s * j * k) + b j * cr (s * j * k))) := ⟨rfl⟩
          clear hl q1 q2 q3 q4 q5 q6 q7 q8
          rw [hu.out, hv.out] at hst
          clear hu hv
          generalize a j * cr (s * j * k) - b j * ci (s * j * k) = tx at *
          generalize a j * ci (s * j * k) + b j * cr (s * j * k) = ty at *
          generalize cr (s * j * k) = p at *
          generalize ci (s * j * k) = q at *
          generalize a j = aj at *
          generalize b j = bj at *
          generalize sR s a b k j = u at *
          generalize sI s a b k j = v at *
          generalize u + tx = u' at *
          generalize v + ty = v' at *
          have n3 : (0 : Int) ≤ (j : Int) := by omega
          have n4 : (j : Int) < 4 := by omega
          have n4' : decide ((j : Int) < 4) = true := decide_eq_true n4
          go_wp2
          have hE1 := Box.mk (Ext.drew1 hE1.out)
          have hB1 := Box.mk (Ext.blk (Ext.drew1 (Below.refl _ _)) hB1.out)
          have hA1 := Box.mk (Ext.blk (Ext.drew1 (Below.refl _ _)) hA1.out)
          have hR1 := Box.mk (Ext.blk (Ext.drew1 (Below.refl _ _)) hR1.out)
          go_region_law (first
            | (go_simp; go_at_call 46; (with_reducible refine (cP1.out _).mono ?_); rintro e w2 ⟨rfl, hb2⟩; have m0 := Ext.cell hb2 m0; have m1 := Ext.cell hb2 m1; have m2 := Ext.cell hb2 m2; have m3 := Ext.cell hb2 m3; have hE1 := Box.mk (Ext.trans' hE1.out hb2); have hB1 := Box.mk (Ext.blk hb2 hB1.out); have hA1 := Box.mk (Ext.blk hb2 hA1.out); have hR1 := Box.mk (Ext.blk hb2 hR1.out); have z0 := Lib.frozen_of_heap hB1.out (k * 2); have z1 := Lib.frozen_of_heap hB1.out (k * 2 + 1))
            | (go_simp; go_at_call 21; (with_reducible refine (cT1.out _).mono ?_); rintro e w3 ⟨rfl, hb3⟩; have m0 := Ext.cell hb3 m0; have m1 := Ext.cell hb3 m1; have m2 := Ext.cell hb3 m2; have m3 := Ext.cell hb3 m3; have hE1 := Box.mk (Ext.trans' hE1.out hb3); have hB1 := Box.mk (Ext.blk hb3 hB1.out); have hA1 := Box.mk (Ext.blk hb3 hA1.out); have hR1 := Box.mk (Ext.blk hb3 hR1.out); have z0 := Lib.frozen_of_heap hB1.out (k * 2); have z1 := Lib.frozen_of_heap hB1.out (k * 2 + 1))
            | (go_simp; go_at_call 45; (with_reducible refine (cQ1.out _).mono ?_); rintro e w4 ⟨rfl, hb4⟩; have m0 := Ext.cell hb4 m0; have m1 := Ext.cell hb4 m1; have m2 := Ext.cell hb4 m2; have m3 := Ext.cell hb4 m3; have hE1 := Box.mk (Ext.trans' hE1.out hb4); have hB1 := Box.mk (Ext.blk hb4 hB1.out); have hA1 := Box.mk (Ext.blk hb4 hA1.out); have hR1 := Box.mk (Ext.blk hb4 hR1.out); have z0 := Lib.frozen_of_heap hB1.out (k * 2); have z1 := Lib.frozen_of_heap hB1.out (k * 2 + 1)))
          all_goals
            go_wp2
            go_roundw
            case rel =>
              refine ⟨j + 1, by omega, by go_num, ⟨?_⟩, ⟨?_⟩, ⟨?_⟩, ⟨?_⟩⟩
              · rw [hst.out]
                exact heap_setCell_same _ (w.heap.size + 2) (k * 2 + 1) _ _ _ (heap_setCell_same _ (w.heap.size + 2) (k * 2) _ _ _ hB1.out)
              · exact (heap_setCell_other _ _ _ _ (by show w.heap.size ≠ w.heap.size + 2; omega)).trans ((heap_setCell_other _ _ _ _ (by show w.heap.size ≠ w.heap.size + 2; omega)).trans hA1.out)
              · exact (heap_setCell_other _ _ _ _ (by show w.heap.size + 1 ≠ w.heap.size + 2; omega)).trans ((heap_setCell_other _ _ _ _ (by show w.heap.size + 1 ≠ w.heap.size + 2; omega)).trans hR1.out)
              · exact Ext.set (Ext.set hE1.out (by omega) _ _) (by omega) _ _
            case measure => simp [intOf]; omega
        · obtain rfl : j = 4 := by omega
          rw [so_next (sR s a b) (fun _ => rfl), so_next (sI s a b) (fun _ => rfl)] at hB1
          go_wp2
          go_roundw
          case rel => exact ⟨k + 1, by omega, by go_num, hB1, hA1, hR1, hE1⟩
          case measure => simp [intOf]; omega
    · obtain rfl : k = 4 := by omega
      have hB4 : wr.heap[w.heap.size + 2]? = some (.cells (Cells8 (fun k => sR s a b k 4) (fun k => sI s a b k 4)) 29 (0, 0)) := by
        rw [hB.out, cells8_eq fun m hm => ⟨so_four (sR s a b) m hm, so_four (sI s a b) m hm⟩]
      obtain ⟨⟨m0, m1, m2, m3, m4, m5, m6, m7⟩, -⟩ := cx8 hB4
      obtain ⟨⟨o0, o1, o2, o3, o4, o5, o6, o7⟩, z0, z1, z2, z3, z4, z5, z6, z7⟩ := cx8 hR.out
      go_wp2
      refine bodyPost_ret (v := .agg (Cells8 (fun k => sR s a b k 4) (fun k => sI s a b k 4))) ?_ rfl ⟨rfl, Ext.st8 hE.out (by omega) _ _ _ _ _ _ _ _⟩
      simp [results, Tryd.results17, go_sem, o0, o1, o2, o3, o4, o5, o6, o7, Cells8]
end Go.Proofs.YtbnmnkmjokcmfaaDoor
