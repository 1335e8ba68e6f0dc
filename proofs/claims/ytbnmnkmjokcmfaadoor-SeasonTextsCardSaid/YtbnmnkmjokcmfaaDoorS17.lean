import Derived.Test.YtbnmnkmjokcmfaaDoorS16
/- The law's own product. -/
namespace Go.Proofs.YtbnmnkmjokcmfaaDoor
open Go.RowKit
theorem w4 (w : World) (a b c d : Nat → Int) : Ext w ((((w.alloc (.cells #[.int .i64 (a 0), .int .i64 (b 0), .int .i64 (a 1), .int .i64 (b 1), .int .i64 (a 2), .int .i64 (b 2), .int .i64 (a 3), .int .i64 (b 3)] 29)).alloc (.cells #[.int .i64 (c 0), .int .i64 (d 0), .int .i64 (c 1), .int .i64 (d 1), .int .i64 (c 2), .int .i64 (d 2), .int .i64 (c 3), .int .i64 (d 3)] 29)).alloc (.cells #[.int .i64 0, .int .i64 0, .int .i64 0, .int .i64 0, .int .i64 0, .int .i64 0, .int .i64 0, .int .i64 0] 29)).alloc (.cells #[.int .i64 0, .int .i64 0, .int .i64 0, .int .i64 0, .int .i64 0, .int .i64 0, .int .i64 0, .int .i64 0] 29)) ∧ ((((w.alloc (.cells #[.int .i64 (a 0), .int .i64 (b 0), .int .i64 (a 1), .int .i64 (b 1), .int .i64 (a 2), .int .i64 (b 2), .int .i64 (a 3), .int .i64 (b 3)] 29)).alloc (.cells #[.int .i64 (c 0), .int .i64 (d 0), .int .i64 (c 1), .int .i64 (d 1), .int .i64 (c 2), .int .i64 (d 2), .int .i64 (c 3), .int .i64 (d 3)] 29)).alloc (.cells #[.int .i64 0, .int .i64 0, .int .i64 0, .int .i64 0, .int .i64 0, .int .i64 0, .int .i64 0, .int .i64 0] 29)).alloc (.cells #[.int .i64 0, .int .i64 0, .int .i64 0, .int .i64 0, .int .i64 0, .int .i64 0, .int .i64 0, .int .i64 0] 29)).heap[w.heap.size]? = some (.cells #[.int .i64 (a 0), .int .i64 (b 0), .int .i64 (a 1), .int .i64 (b 1), .int .i64 (a 2), .int .i64 (b 2), .int .i64 (a 3), .int .i64 (b 3)] 29 (0, 0)) ∧ ((((w.alloc (.cells #[.int .i64 (a 0), .int .i64 (b 0), .int .i64 (a 1), .int .i64 (b 1), .int .i64 (a 2), .int .i64 (b 2), .int .i64 (a 3), .int .i64 (b 3)] 29)).alloc (.cells #[.int .i64 (c 0), .int .i64 (d 0), .int .i64 (c 1), .int .i64 (d 1), .int .i64 (c 2), .int .i64 (d 2), .int .i64 (c 3), .int .i64 (d 3)] 29)).alloc (.cells #[.int .i64 0, .int .i64 0, .int .i64 0, .int .i64 0, .int .i64 0, .int .i64 0, .int .i64 0, .int .i64 0] 29)).alloc (.cells #[.int .i64 0, .int .i64 0, .int .i64 0, .int .i64 0, .int .i64 0, .int .i64 0, .int .i64 0, .int .i64 0] 29)).heap[w.heap.size + 1]? = some (.cells #[.int .i64 (c 0), .int .i64 (d 0), .int .i64 (c 1), .int .i64 (d 1), .int .i64 (c 2), .int .i64 (d 2), .int .i64 (c 3), .int .i64 (d 3)] 29 (0, 0)) ∧ ((((w.alloc (.cells #[.int .i64 (a 0), .int .i64 (b 0), .int .i64 (a 1), .int .i64 (b 1), .int .i64 (a 2), .int .i64 (b 2), .int .i64 (a 3), .int .i64 (b 3)] 29)).alloc (.cells #[.int .i64 (c 0), .int .i64 (d 0), .int .i64 (c 1), .int .i64 (d 1), .int .i64 (c 2), .int .i64 (d 2), .int .i64 (c 3), .int .i64 (d 3)] 29)).alloc (.cells #[.int .i64 0, .int .i64 0, .int .i64 0, .int .i64 0, .int .i64 0, .int .i64 0, .int .i64 0, .int .i64 0] 29)).alloc (.cells #[.int .i64 0, .int .i64 0, .int .i64 0, .int .i64 0, .int .i64 0, .int .i64 0, .int .i64 0, .int .i64 0] 29)).heap[w.heap.size + 2]? = some (.cells #[.int .i64 0, .int .i64 0, .int .i64 0, .int .i64 0, .int .i64 0, .int .i64 0, .int .i64 0, .int .i64 0] 29 (0, 0)) ∧ ((((w.alloc (.cells #[.int .i64 (a 0), .int .i64 (b 0), .int .i64 (a 1), .int .i64 (b 1), .int .i64 (a 2), .int .i64 (b 2), .int .i64 (a 3), .int .i64 (b 3)] 29)).alloc (.cells #[.int .i64 (c 0), .int .i64 (d 0), .int .i64 (c 1), .int .i64 (d 1), .int .i64 (c 2), .int .i64 (d 2), .int .i64 (c 3), .int .i64 (d 3)] 29)).alloc (.cells #[.int .i64 0, .int .i64 0, .int .i64 0, .int .i64 0, .int .i64 0, .int .i64 0, .int .i64 0, .int .i64 0] 29)).alloc (.cells #[.int .i64 0, .int .i64 0, .int .i64 0, .int .i64 0, .int .i64 0, .int .i64 0, .int .i64 0, .int .i64 0] 29)).heap[w.heap.size + 3]? = some (.cells #[.int .i64 0, .int .i64 0, .int .i64 0, .int .i64 0, .int .i64 0, .int .i64 0, .int .i64 0, .int .i64 0] 29 (0, 0)) := by
  obtain ⟨h1, h2, h3, h5⟩ := w9 w a b c d
  generalize hv : (((w.alloc (.cells #[.int .i64 (a 0), .int .i64 (b 0), .int .i64 (a 1), .int .i64 (b 1), .int .i64 (a 2), .int .i64 (b 2), .int .i64 (a 3), .int .i64 (b 3)] 29)).alloc (.cells #[.int .i64 (c 0), .int .i64 (d 0), .int .i64 (c 1), .int .i64 (d 1), .int .i64 (c 2), .int .i64 (d 2), .int .i64 (c 3), .int .i64 (d 3)] 29)).alloc (.cells #[.int .i64 0, .int .i64 0, .int .i64 0, .int .i64 0, .int .i64 0, .int .i64 0, .int .i64 0, .int .i64 0] 29)) = v at *
  have hs : v.heap.size = w.heap.size + 3 := by rw [← hv]; simp
  have x : Ext v (v.alloc (.cells #[.int .i64 0, .int .i64 0, .int .i64 0, .int .i64 0, .int .i64 0, .int .i64 0, .int .i64 0, .int .i64 0] 29)) := Ext.alloc (Below.refl _ _) _
  have h4 := newblk v (.cells #[.int .i64 0, .int .i64 0, .int .i64 0, .int .i64 0, .int .i64 0, .int .i64 0, .int .i64 0, .int .i64 0] 29)
  rw [hs] at h4
  exact ⟨Ext.trans' h1 x, Ext.blk x h2, Ext.blk x h3, Ext.blk x h5, h4⟩
theorem pr_step (a b c d : Nat → Int) (k j : Nat) (hk : k < 4) (hj : j < 4) :
    Cells8 (fun m => pR a b c d m (4 * k + (j + 1))) (fun m => pI a b c d m (4 * k + (j + 1))) = ((Cells8 (fun m => pR a b c d m (4 * k + j)) (fun m => pI a b c d m (4 * k + j))).setIfInBounds ((k + j) % 4 * 2) (.int .i64 (pR a b c d ((k + j) % 4) (4 * k + j) + (a k * c j - b k * d j)))).setIfInBounds ((k + j) % 4 * 2 + 1) (.int .i64 (pI a b c d ((k + j) % 4) (4 * k + j) + (a k * d j + b k * c j))) := by
  rw [cells8_set _ _ _ _ _ (Nat.mod_lt _ (by decide))]
  refine cells8_eq fun m _ => ?_
  have e1 : (4 * k + j) / 4 = k := by omega
  have e2 : (4 * k + j) % 4 = j := by omega
  have g1 : pR a b c d m (4 * k + (j + 1)) = pR a b c d m (4 * k + j) + (if ((4 * k + j) / 4 + (4 * k + j) % 4) % 4 = m then a ((4 * k + j) / 4) * c ((4 * k + j) % 4) - b ((4 * k + j) / 4) * d ((4 * k + j) % 4) else 0) := rfl
  have g2 : pI a b c d m (4 * k + (j + 1)) = pI a b c d m (4 * k + j) + (if ((4 * k + j) / 4 + (4 * k + j) % 4) % 4 = m then a ((4 * k + j) / 4) * d ((4 * k + j) % 4) + b ((4 * k + j) / 4) * c ((4 * k + j) % 4) else 0) := rfl
  rw [e1, e2] at g1 g2
  by_cases h : m = (k + j) % 4
  · subst h; rw [g1, g2]; simp
  · have h' : ¬ (k + j) % 4 = m := fun e => h e.symm
    rw [g1, g2]; simp [h, h']
set_option maxRecDepth 100000 in
set_option maxHeartbeats 8000000 in
theorem lproduct_any (a b c d : Nat → Int) (h1 : ∀ j, j < 4 → Lim (2 ^ 20) (a j) ∧ Lim (2 ^ 20) (b j)) (h2 : ∀ j, j < 4 → Lim (2 ^ 20) (c j) ∧ Lim (2 ^ 20) (d j)) (w : World) :
    Calls Tryd.prog 18 #[(.agg #[.int .i64 (a 0), .int .i64 (b 0), .int .i64 (a 1), .int .i64 (b 1), .int .i64 (a 2), .int .i64 (b 2), .int .i64 (a 3), .int .i64 (b 3)]), (.agg #[.int .i64 (c 0), .int .i64 (d 0), .int .i64 (c 1), .int .i64 (d 1), .int .i64 (c 2), .int .i64 (d 2), .int .i64 (c 3), .int .i64 (d 3)])] w fun e w' => e = .returned (.agg #[.int .i64 (prR a b c d 0), .int .i64 (prI a b c d 0), .int .i64 (prR a b c d 1), .int .i64 (prI a b c d 1), .int .i64 (prR a b c d 2), .int .i64 (prI a b c d 2), .int .i64 (prR a b c d 3), .int .i64 (prI a b c d 3)]) ∧ Ext w w' := by
  obtain ⟨hx, hA, hC, hR, hB⟩ := w4 w a b c d
  have HX := Box.mk hx
  have HA : Box (((((w.alloc (.cells #[.int .i64 (a 0), .int .i64 (b 0), .int .i64 (a 1), .int .i64 (b 1), .int .i64 (a 2), .int .i64 (b 2), .int .i64 (a 3), .int .i64 (b 3)] 29)).alloc (.cells #[.int .i64 (c 0), .int .i64 (d 0), .int .i64 (c 1), .int .i64 (d 1), .int .i64 (c 2), .int .i64 (d 2), .int .i64 (c 3), .int .i64 (d 3)] 29)).alloc (.cells #[.int .i64 0, .int .i64 0, .int .i64 0, .int .i64 0, .int .i64 0, .int .i64 0, .int .i64 0, .int .i64 0] 29)).alloc (.cells #[.int .i64 0, .int .i64 0, .int .i64 0, .int .i64 0, .int .i64 0, .int .i64 0, .int .i64 0, .int .i64 0] 29)).heap[w.heap.size]? = some (.cells (Cells8 a b) 29 (0, 0))) := ⟨hA⟩
  have HC : Box (((((w.alloc (.cells #[.int .i64 (a 0), .int .i64 (b 0), .int .i64 (a 1), .int .i64 (b 1), .int .i64 (a 2), .int .i64 (b 2), .int .i64 (a 3), .int .i64 (b 3)] 29)).alloc (.cells #[.int .i64 (c 0), .int .i64 (d 0), .int .i64 (c 1), .int .i64 (d 1), .int .i64 (c 2), .int .i64 (d 2), .int .i64 (c 3), .int .i64 (d 3)] 29)).alloc (.cells #[.int .i64 0, .int .i64 0, .int .i64 0, .int .i64 0, .int .i64 0, .int .i64 0, .int .i64 0, .int .i64 0] 29)).alloc (.cells #[.int .i64 0, .int .i64 0, .int .i64 0, .int .i64 0, .int .i64 0, .int .i64 0, .int .i64 0, .int .i64 0] 29)).heap[w.heap.size + 1]? = some (.cells (Cells8 c d) 29 (0, 0))) := ⟨hC⟩
  have HR := Box.mk hR
  have HB : Box (((((w.alloc (.cells #[.int .i64 (a 0), .int .i64 (b 0), .int .i64 (a 1), .int .i64 (b 1), .int .i64 (a 2), .int .i64 (b 2), .int .i64 (a 3), .int .i64 (b 3)] 29)).alloc (.cells #[.int .i64 (c 0), .int .i64 (d 0), .int .i64 (c 1), .int .i64 (d 1), .int .i64 (c 2), .int .i64 (d 2), .int .i64 (c 3), .int .i64 (d 3)] 29)).alloc (.cells #[.int .i64 0, .int .i64 0, .int .i64 0, .int .i64 0, .int .i64 0, .int .i64 0, .int .i64 0, .int .i64 0] 29)).alloc (.cells #[.int .i64 0, .int .i64 0, .int .i64 0, .int .i64 0, .int .i64 0, .int .i64 0, .int .i64 0, .int .i64 0] 29)).heap[w.heap.size + 3]? = some (.cells (Cells8 (fun m => pR a b c d m (4 * 0)) (fun m => pI a b c d m (4 * 0))) 29 (0, 0))) := ⟨hB⟩
  have HL1 := Box.mk h1
  have HL2 := Box.mk h2
  clear hx hA hC hR hB h1 h2
  go_enter Tryd.func18, Tryd.ntmps18
  go_wp2
  go_loopw [6] (fun i wr => ∃ k : Nat, k ≤ 4 ∧ i = .int .i64 k ∧ Box (wr.heap[w.heap.size + 3]? = some (.cells (Cells8 (fun m => pR a b c d m (4 * k)) (fun m => pI a b c d m (4 * k))) 29 (0, 0))) ∧ Box (wr.heap[w.heap.size]? = some (.cells (Cells8 a b) 29 (0, 0))) ∧ Box (wr.heap[w.heap.size + 1]? = some (.cells (Cells8 c d) 29 (0, 0))) ∧ Box (wr.heap[w.heap.size + 2]? = some (.cells #[.int .i64 0, .int .i64 0, .int .i64 0, .int .i64 0, .int .i64 0, .int .i64 0, .int .i64 0, .int .i64 0] 29 (0, 0))) ∧ Box (Ext w wr)) (fun i _ => 4 - (intOf i).toNat)
  case atStart => exact ⟨0, by omega, rfl, HB, HA, HC, HR, HX⟩
  case round =>
    obtain ⟨k, hk, rfl, hB, hA, hC, hR, hE⟩ := hrel
    by_cases hk4 : k < 4
    · have n1 : (0 : Int) ≤ (k : Int) := by omega
      have n2 : (k : Int) < 4 := by omega
      have n2' : decide ((k : Int) < 4) = true := decide_eq_true n2
      go_wp2
      go_loopw [7] (fun i wx => ∃ j : Nat, j ≤ 4 ∧ i = .int .i64 j ∧ Box (wx.heap[w.heap.size + 3]? = some (.cells (Cells8 (fun m => pR a b c d m (4 * k + j)) (fun m => pI a b c d m (4 * k + j))) 29 (0, 0))) ∧ Box (wx.heap[w.heap.size]? = some (.cells (Cells8 a b) 29 (0, 0))) ∧ Box (wx.heap[w.heap.size + 1]? = some (.cells (Cells8 c d) 29 (0, 0))) ∧ Box (wx.heap[w.heap.size + 2]? = some (.cells #[.int .i64 0, .int .i64 0, .int .i64 0, .int .i64 0, .int .i64 0, .int .i64 0, .int .i64 0, .int .i64 0] 29 (0, 0))) ∧ Box (Ext w wx)) (fun i _ => 4 - (intOf i).toNat)
      case atStart => exact ⟨0, by omega, rfl, hB, hA, hC, hR, hE⟩
      case round =>
        obtain ⟨j, hj, rfl, hB1, hA1, hC1, hR1, hE1⟩ := hrel
        by_cases hj4 : j < 4
        · have hl1 := HL1.out k hk4
          have hl2 := HL2.out j hj4
          have k1 := m_lim hl1.1 hl2.1
          have k2 := m_lim hl1.2 hl2.2
          have k3 := m_lim hl1.1 hl2.2
          have k4 := m_lim hl1.2 hl2.1
          obtain ⟨k5, k6⟩ := p_lim ((k + j) % 4) HL1.out HL2.out (4 * k + j) (by omega)
          have cT1 : Box (∀ w, _) := ⟨fun w => ltimes_any (a k) (b k) (c j) (d j) w (by unfold Lim at *; omega) (by unfold Lim at *; omega) (by unfold Lim at *; omega) (by unfold Lim at *; omega)⟩
          have cQ1 : Box (∀ w, _) := ⟨fun w => lplus_any (pR a b c d ((k + j) % 4) (4 * k + j)) (pI a b c d ((k + j) % 4) (4 * k + j)) (a k * c j - b k * d j) (a k * d j + b k * c j) w (by unfold Lim at *; omega) (by unfold Lim at *; omega)⟩
          have hm : (k + j) % 4 < 4 := Nat.mod_lt _ (by decide)
          have q1 : IntKind.i64.wrap ((k : Int) + (j : Int)) = (k : Int) + (j : Int) := by rw [IntKind.wrap_i64]; omega
          have q2 : ((k : Int) + (j : Int)).tmod 4 = (((k + j) % 4 : Nat) : Int) := by rw [Int.tmod_eq_emod_of_nonneg (by omega)]; omega
          have q3 : IntKind.i64.wrap (((k + j) % 4 : Nat) : Int) = (((k + j) % 4 : Nat) : Int) := by rw [IntKind.wrap_i64]; omega
          obtain ⟨⟨m0, m1⟩, z0, z1⟩ := cells8_at hB1.out _ hm
          obtain ⟨⟨m2, m3⟩, -⟩ := cells8_at hA1.out k hk4
          obtain ⟨⟨m4, m5⟩, -⟩ := cells8_at hC1.out j hj4
          have hst := Box.mk (pr_step a b c d k j hk4 hj4)
          clear hl1 hl2 k1 k2 k3 k4 k5 k6
          generalize (k + j) % 4 = r at *
          generalize a k * c j - b k * d j = tx at *
          generalize a k * d j + b k * c j = ty at *
          generalize a k = ak at *
          generalize b k = bk at *
          generalize c j = cj at *
          generalize d j = dj at *
          generalize pR a b c d r (4 * k + j) = u at *
          generalize pI a b c d r (4 * k + j) = v at *
          generalize u + tx = u' at *
          generalize v + ty = v' at *
          have n3 : (0 : Int) ≤ (j : Int) := by omega
          have n4 : (j : Int) < 4 := by omega
          have n4' : decide ((j : Int) < 4) = true := decide_eq_true n4
          have n5 : (0 : Int) ≤ (r : Int) := by omega
          have n6 : (r : Int) < 4 := by omega
          go_wp2
          have hE1 := Box.mk (Ext.drew1 hE1.out)
          have hB1 := Box.mk (Ext.blk (Ext.drew1 (Below.refl _ _)) hB1.out)
          have hA1 := Box.mk (Ext.blk (Ext.drew1 (Below.refl _ _)) hA1.out)
          have hC1 := Box.mk (Ext.blk (Ext.drew1 (Below.refl _ _)) hC1.out)
          have hR1 := Box.mk (Ext.blk (Ext.drew1 (Below.refl _ _)) hR1.out)
          go_region_law (first
            | (go_simp; go_at_call 21; (with_reducible refine (cT1.out _).mono ?_); rintro e w3 ⟨rfl, hb3⟩; have m0 := Ext.cell hb3 m0; have m1 := Ext.cell hb3 m1; have hE1 := Box.mk (Ext.trans' hE1.out hb3); have hB1 := Box.mk (Ext.blk hb3 hB1.out); have hA1 := Box.mk (Ext.blk hb3 hA1.out); have hC1 := Box.mk (Ext.blk hb3 hC1.out); have hR1 := Box.mk (Ext.blk hb3 hR1.out); have z0 := Lib.frozen_of_heap hB1.out (r * 2); have z1 := Lib.frozen_of_heap hB1.out (r * 2 + 1))
            | (go_simp; go_at_call 45; (with_reducible refine (cQ1.out _).mono ?_); rintro e w4 ⟨rfl, hb4⟩; have m0 := Ext.cell hb4 m0; have m1 := Ext.cell hb4 m1; have hE1 := Box.mk (Ext.trans' hE1.out hb4); have hB1 := Box.mk (Ext.blk hb4 hB1.out); have hA1 := Box.mk (Ext.blk hb4 hA1.out); have hC1 := Box.mk (Ext.blk hb4 hC1.out); have hR1 := Box.mk (Ext.blk hb4 hR1.out); have z0 := Lib.frozen_of_heap hB1.out (r * 2); have z1 := Lib.frozen_of_heap hB1.out (r * 2 + 1)))
          all_goals
            go_wp2
            go_roundw
            case rel =>
              refine ⟨j + 1, by omega, by go_num, ⟨?_⟩, ⟨?_⟩, ⟨?_⟩, ⟨?_⟩, ⟨?_⟩⟩
              · rw [hst.out]
                exact heap_setCell_same _ (w.heap.size + 3) (r * 2 + 1) _ _ _ (heap_setCell_same _ (w.heap.size + 3) (r * 2) _ _ _ hB1.out)
              · exact (heap_setCell_other _ _ _ _ (by show w.heap.size ≠ w.heap.size + 3; omega)).trans ((heap_setCell_other _ _ _ _ (by show w.heap.size ≠ w.heap.size + 3; omega)).trans hA1.out)
              · exact (heap_setCell_other _ _ _ _ (by show w.heap.size + 1 ≠ w.heap.size + 3; omega)).trans ((heap_setCell_other _ _ _ _ (by show w.heap.size + 1 ≠ w.heap.size + 3; omega)).trans hC1.out)
              · exact (heap_setCell_other _ _ _ _ (by show w.heap.size + 2 ≠ w.heap.size + 3; omega)).trans ((heap_setCell_other _ _ _ _ (by show w.heap.size + 2 ≠ w.heap.size + 3; omega)).trans hR1.out)
              · exact Ext.set (Ext.set hE1.out (by omega) _ _) (by omega) _ _
            case measure => simp [intOf]; omega
        · obtain rfl : j = 4 := by omega
          have hB4 : Box (wr.heap[w.heap.size + 3]? = some (.cells (Cells8 (fun m => pR a b c d m (4 * (k + 1))) (fun m => pI a b c d m (4 * (k + 1)))) 29 (0, 0))) := hB1
          go_wp2
          go_roundw
          case rel => exact ⟨k + 1, by omega, by go_num, hB4, hA1, hC1, hR1, hE1⟩
          case measure => simp [intOf]; omega
    · obtain rfl : k = 4 := by omega
      have hB4 : wr.heap[w.heap.size + 3]? = some (.cells #[.int .i64 (prR a b c d 0), .int .i64 (prI a b c d 0), .int .i64 (prR a b c d 1), .int .i64 (prI a b c d 1), .int .i64 (prR a b c d 2), .int .i64 (prI a b c d 2), .int .i64 (prR a b c d 3), .int .i64 (prI a b c d 3)] 29 (0, 0)) := hB.out
      obtain ⟨⟨m0, m1, m2, m3, m4, m5, m6, m7⟩, -⟩ := cx8 hB4
      obtain ⟨⟨o0, o1, o2, o3, o4, o5, o6, o7⟩, z0, z1, z2, z3, z4, z5, z6, z7⟩ := cx8 hR.out
      go_wp2
      refine bodyPost_ret (v := (.agg #[.int .i64 (prR a b c d 0), .int .i64 (prI a b c d 0), .int .i64 (prR a b c d 1), .int .i64 (prI a b c d 1), .int .i64 (prR a b c d 2), .int .i64 (prI a b c d 2), .int .i64 (prR a b c d 3), .int .i64 (prI a b c d 3)])) ?_ rfl ⟨rfl, Ext.st8 hE.out (by omega) _ _ _ _ _ _ _ _⟩
      simp [results, Tryd.results18, go_sem, o0, o1, o2, o3, o4, o5, o6, o7]
end Go.Proofs.YtbnmnkmjokcmfaaDoor
