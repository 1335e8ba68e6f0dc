import Derived.Test.YtbnmnkmjokcmfaaDoorS17
/- The walk of SeasonTransforms. -/
namespace Go.Proofs.YtbnmnkmjokcmfaaDoor
open Go.RowKit
theorem allWh_succ (u v : Nat → Int) (k : Nat) : allWh u v (k + 1) = (allWh u v k && wh u v k) := by
  unfold allWh; rw [List.range_succ]; simp
theorem turned_at (a : Nat → Int) (n : Int) (j : Nat) (hj : j < 4) (r : Nat) (hr : (r : Int) = ((j : Int) + n.tmod 4 + 4).tmod 4) : tn a n r = a j := by
  unfold tn
  have h1 := Int.mul_tdiv_add_tmod n 4
  have h2 : -4 < n.tmod 4 ∧ n.tmod 4 < 4 := ⟨Int.lt_tmod_of_pos n (by decide), Int.tmod_lt_of_pos n (by decide)⟩
  rw [Int.tmod_eq_emod_of_nonneg (by omega)] at hr
  have : (((r : Int) - n) % 4).toNat = j := by omega
  rw [this]
theorem x8 (w : World) (a b : Nat → Int) : Ext w (w.alloc (.cells #[.int .i64 (a 0), .int .i64 (b 0), .int .i64 (a 1), .int .i64 (b 1), .int .i64 (a 2), .int .i64 (b 2), .int .i64 (a 3), .int .i64 (b 3)] 29)) ∧ (w.alloc (.cells #[.int .i64 (a 0), .int .i64 (b 0), .int .i64 (a 1), .int .i64 (b 1), .int .i64 (a 2), .int .i64 (b 2), .int .i64 (a 3), .int .i64 (b 3)] 29)).heap[w.heap.size]? = some (.cells (Cells8 a b) 29 (0, 0)) := ⟨Ext.alloc (Below.refl _ _) _, newblk _ _⟩
set_option maxRecDepth 100000 in
set_option maxHeartbeats 16000000 in
theorem strans_T (a b c d ia ib pa pb : Nat → Int) (n f g : Int) (W : World) (hn : -9223372036854775808 ≤ n ∧ n ≤ 9223372036854775807) (hv : allV a b 4 = true)
    (hI : (allWh (iR a b) (iI a b) 4 = true ∧ ia = qt (iR a b) ∧ ib = qt (iI a b) ∧ f = 0) ∨ (allWh (iR a b) (iI a b) 4 = false ∧ ia = z0 ∧ ib = z0 ∧ f = 10))
    (hP : (allV c d 4 = true ∧ pa = prR a b c d ∧ pb = prI a b c d ∧ g = 0) ∨ (allV c d 4 = false ∧ pa = z0 ∧ pb = z0 ∧ g = 2))
    (cI : ∀ w, Calls Tryd.prog 14 #[(.agg #[.int .i64 (a 0), .int .i64 (b 0), .int .i64 (a 1), .int .i64 (b 1), .int .i64 (a 2), .int .i64 (b 2), .int .i64 (a 3), .int .i64 (b 3)])] w fun e w' => e = .returned (.tuple #[(.agg #[.int .i64 (ia 0), .int .i64 (ib 0), .int .i64 (ia 1), .int .i64 (ib 1), .int .i64 (ia 2), .int .i64 (ib 2), .int .i64 (ia 3), .int .i64 (ib 3)]), .int .i64 f]) ∧ Ext w w')
    (cR : ∀ w, Calls Tryd.prog 15 #[(.agg #[.int .i64 (a 0), .int .i64 (b 0), .int .i64 (a 1), .int .i64 (b 1), .int .i64 (a 2), .int .i64 (b 2), .int .i64 (a 3), .int .i64 (b 3)]), (.agg #[.int .i64 (c 0), .int .i64 (d 0), .int .i64 (c 1), .int .i64 (d 1), .int .i64 (c 2), .int .i64 (d 2), .int .i64 (c 3), .int .i64 (d 3)])] w fun e w' => e = .returned (.tuple #[(.agg #[.int .i64 (pa 0), .int .i64 (pb 0), .int .i64 (pa 1), .int .i64 (pb 1), .int .i64 (pa 2), .int .i64 (pb 2), .int .i64 (pa 3), .int .i64 (pb 3)]), .int .i64 g]) ∧ Ext w w')
    (ht : EnvS W) : Calls Tryd.prog 4 #[(.agg #[.int .i64 (a 0), .int .i64 (b 0), .int .i64 (a 1), .int .i64 (b 1), .int .i64 (a 2), .int .i64 (b 2), .int .i64 (a 3), .int .i64 (b 3)]), (.agg #[.int .i64 (c 0), .int .i64 (d 0), .int .i64 (c 1), .int .i64 (d 1), .int .i64 (c 2), .int .i64 (d 2), .int .i64 (c 3), .int .i64 (d 3)]), .int .i64 n] W fun e W' => e = .returned (.bool true) ∧ Ext W W' := by
  have ck : Box (∀ w, Ext W w → Calls Tryd.prog 8 #[] w fun e w' => e = .returned (.bool true) ∧ Ext w w') := ⟨fun w h => known_any w (ht.ext h)⟩
  have cI := Box.mk cI
  have cR := Box.mk cR
  have hI := Box.mk hI
  have hP := Box.mk hP
  have cT : Box (∀ w, _) := ⟨fun w => transform_ok a b w hv⟩
  have cU : Box (∀ w, _) := ⟨fun w => turn_any a b n w⟩
  have hL : ∀ j, j < 4 → Lim (2 ^ 20) (a j) ∧ Lim (2 ^ 20) (b j) := fun j hj => by
    have := gB_iff.1 (allV_iff.1 hv j hj); unfold Lim; omega
  have hL4 : ∀ j, j < 4 → Lim (2 ^ 44) (a j) ∧ Lim (2 ^ 44) (b j) := fun j hj => by
    have := hL j hj; unfold Lim at *; omega
  have cS : Box (∀ w, Calls Tryd.prog 17 #[(.agg #[.int .i64 (a 0), .int .i64 (b 0), .int .i64 (a 1), .int .i64 (b 1), .int .i64 (a 2), .int .i64 (b 2), .int .i64 (a 3), .int .i64 (b 3)]), .int .i64 (-1)] w fun e w' => e = .returned (.agg #[.int .i64 (tR a b 0), .int .i64 (tI a b 0), .int .i64 (tR a b 1), .int .i64 (tI a b 1), .int .i64 (tR a b 2), .int .i64 (tI a b 2), .int .i64 (tR a b 3), .int .i64 (tI a b 3)]) ∧ Ext w w') := ⟨fun w => lsums_any (-1) (Or.inr rfl) a b hL4 w⟩
  have cB : Box (∀ w, Calls Tryd.prog 17 #[(.agg #[.int .i64 (a 0), .int .i64 (b 0), .int .i64 (a 1), .int .i64 (b 1), .int .i64 (a 2), .int .i64 (b 2), .int .i64 (a 3), .int .i64 (b 3)]), .int .i64 1] w fun e w' => e = .returned (.agg #[.int .i64 (iR a b 0), .int .i64 (iI a b 0), .int .i64 (iR a b 1), .int .i64 (iI a b 1), .int .i64 (iR a b 2), .int .i64 (iI a b 2), .int .i64 (iR a b 3), .int .i64 (iI a b 3)]) ∧ Ext w w') := ⟨fun w => lsums_any 1 (Or.inl rfl) a b hL4 w⟩
  have cV : Box (∀ w, Calls Tryd.prog 10 #[(.agg #[.int .i64 (a 0), .int .i64 (b 0), .int .i64 (a 1), .int .i64 (b 1), .int .i64 (a 2), .int .i64 (b 2), .int .i64 (a 3), .int .i64 (b 3)])] w fun e w' => e = .returned (.bool true) ∧ Ext w w') := ⟨fun w => by rw [← hv]; exact lvalid_any a b w⟩
  have cY : Box (∀ w, Calls Tryd.prog 10 #[(.agg #[.int .i64 (c 0), .int .i64 (d 0), .int .i64 (c 1), .int .i64 (d 1), .int .i64 (c 2), .int .i64 (d 2), .int .i64 (c 3), .int .i64 (d 3)])] w fun e w' => e = .returned (.bool (allV c d 4)) ∧ Ext w w') := ⟨fun w => lvalid_any c d w⟩
  have cQ : Box (allV c d 4 = true → ∀ w, Calls Tryd.prog 18 #[(.agg #[.int .i64 (a 0), .int .i64 (b 0), .int .i64 (a 1), .int .i64 (b 1), .int .i64 (a 2), .int .i64 (b 2), .int .i64 (a 3), .int .i64 (b 3)]), (.agg #[.int .i64 (c 0), .int .i64 (d 0), .int .i64 (c 1), .int .i64 (d 1), .int .i64 (c 2), .int .i64 (d 2), .int .i64 (c 3), .int .i64 (d 3)])] w fun e w' => e = .returned (.agg #[.int .i64 (prR a b c d 0), .int .i64 (prI a b c d 0), .int .i64 (prR a b c d 1), .int .i64 (prI a b c d 1), .int .i64 (prR a b c d 2), .int .i64 (prI a b c d 2), .int .i64 (prR a b c d 3), .int .i64 (prI a b c d 3)]) ∧ Ext w w') := ⟨fun h w => lproduct_any a b c d hL (fun j hj => by
    have := gB_iff.1 (allV_iff.1 h j hj); unfold Lim; omega) w⟩
  have HLim := Box.mk (inv_lim hv)
  have hTA : ∀ (j : Nat), j < 4 → ∀ r : Nat, (r : Int) = ((j : Int) + n.tmod 4 + 4).tmod 4 → tn a n r = a j ∧ tn b n r = b j := fun j hj r hr => ⟨turned_at a n j hj r hr, turned_at b n j hj r hr⟩
  have HTA := Box.mk hTA
  have HN := Box.mk hn
  generalize hiR : iR a b = u at *
  generalize hiI : iI a b = v at *
  generalize tR a b = ta at *
  generalize tI a b = tb at *
  obtain ⟨x1, b1⟩ := x8 W a b
  obtain ⟨x2, b2⟩ := x8 (W.alloc (.cells #[.int .i64 (a 0), .int .i64 (b 0), .int .i64 (a 1), .int .i64 (b 1), .int .i64 (a 2), .int .i64 (b 2), .int .i64 (a 3), .int .i64 (b 3)] 29)) c d
  have hx : Ext W ((W.alloc (.cells #[.int .i64 (a 0), .int .i64 (b 0), .int .i64 (a 1), .int .i64 (b 1), .int .i64 (a 2), .int .i64 (b 2), .int .i64 (a 3), .int .i64 (b 3)] 29)).alloc (.cells #[.int .i64 (c 0), .int .i64 (d 0), .int .i64 (c 1), .int .i64 (d 1), .int .i64 (c 2), .int .i64 (d 2), .int .i64 (c 3), .int .i64 (d 3)] 29)) := Ext.trans' x1 x2
  have hX : Box (((W.alloc (.cells #[.int .i64 (a 0), .int .i64 (b 0), .int .i64 (a 1), .int .i64 (b 1), .int .i64 (a 2), .int .i64 (b 2), .int .i64 (a 3), .int .i64 (b 3)] 29)).alloc (.cells #[.int .i64 (c 0), .int .i64 (d 0), .int .i64 (c 1), .int .i64 (d 1), .int .i64 (c 2), .int .i64 (d 2), .int .i64 (c 3), .int .i64 (d 3)] 29)).heap[W.heap.size]? = some (.cells #[.int .i64 (a 0), .int .i64 (b 0), .int .i64 (a 1), .int .i64 (b 1), .int .i64 (a 2), .int .i64 (b 2), .int .i64 (a 3), .int .i64 (b 3)] 29 (0, 0))) := ⟨Ext.blk x2 b1⟩
  have hY : Box (((W.alloc (.cells #[.int .i64 (a 0), .int .i64 (b 0), .int .i64 (a 1), .int .i64 (b 1), .int .i64 (a 2), .int .i64 (b 2), .int .i64 (a 3), .int .i64 (b 3)] 29)).alloc (.cells #[.int .i64 (c 0), .int .i64 (d 0), .int .i64 (c 1), .int .i64 (d 1), .int .i64 (c 2), .int .i64 (d 2), .int .i64 (c 3), .int .i64 (d 3)] 29)).heap[W.heap.size + 1]? = some (.cells #[.int .i64 (c 0), .int .i64 (d 0), .int .i64 (c 1), .int .i64 (d 1), .int .i64 (c 2), .int .i64 (d 2), .int .i64 (c 3), .int .i64 (d 3)] 29 (0, 0))) := ⟨by
    rw [show (W.alloc (.cells #[.int .i64 (a 0), .int .i64 (b 0), .int .i64 (a 1), .int .i64 (b 1), .int .i64 (a 2), .int .i64 (b 2), .int .i64 (a 3), .int .i64 (b 3)] 29)).heap.size = W.heap.size + 1 by simp] at b2; exact b2⟩
  (try clear m0 m1 m2 m3 m4 m5 m6 m7); obtain ⟨⟨m0, m1, m2, m3, m4, m5, m6, m7⟩, -⟩ := cx8 hX.out
  (try clear y0 y1 y2 y3 y4 y5 y6 y7); obtain ⟨⟨y0, y1, y2, y3, y4, y5, y6, y7⟩, -⟩ := cx8 hY.out
  clear hv hL hL4 hTA hn ht x1 x2 b1 b2 hiR hiI
  go_enter Tryd.func4, Tryd.ntmps4
  go_wp2_with (first
    | (go_at_call 13; (with_reducible refine (cT.out _).mono ?_); rintro e w1 ⟨rfl, hb⟩; have hA := Box.mk (newblk w1 (.cells #[.int .i64 (ta 0), .int .i64 (tb 0), .int .i64 (ta 1), .int .i64 (tb 1), .int .i64 (ta 2), .int .i64 (tb 2), .int .i64 (ta 3), .int .i64 (tb 3)] 29)); have hb := Ext.trans' hb (Ext.alloc (Below.refl _ w1) (.cells #[.int .i64 (ta 0), .int .i64 (tb 0), .int .i64 (ta 1), .int .i64 (tb 1), .int .i64 (ta 2), .int .i64 (tb 2), .int .i64 (ta 3), .int .i64 (tb 3)] 29)); have hx := Ext.trans' hx hb; have hX := Box.mk (Ext.blk hb hX.out); have hY := Box.mk (Ext.blk hb hY.out); (try clear m0 m1 m2 m3 m4 m5 m6 m7); obtain ⟨⟨m0, m1, m2, m3, m4, m5, m6, m7⟩, -⟩ := cx8 hX.out; (try clear y0 y1 y2 y3 y4 y5 y6 y7); obtain ⟨⟨y0, y1, y2, y3, y4, y5, y6, y7⟩, -⟩ := cx8 hY.out)
    | (go_at_call 14; (with_reducible refine (cI.out _).mono ?_); rintro e w2 ⟨rfl, hb⟩; have hB := Box.mk (newblk w2 (.cells #[.int .i64 (ia 0), .int .i64 (ib 0), .int .i64 (ia 1), .int .i64 (ib 1), .int .i64 (ia 2), .int .i64 (ib 2), .int .i64 (ia 3), .int .i64 (ib 3)] 29)); have hb := Ext.trans' hb (Ext.alloc (Below.refl _ w2) (.cells #[.int .i64 (ia 0), .int .i64 (ib 0), .int .i64 (ia 1), .int .i64 (ib 1), .int .i64 (ia 2), .int .i64 (ib 2), .int .i64 (ia 3), .int .i64 (ib 3)] 29)); have hx := Ext.trans' hx hb; have hX := Box.mk (Ext.blk hb hX.out); have hY := Box.mk (Ext.blk hb hY.out); have hA := Box.mk (Ext.blk hb hA.out); (try clear m0 m1 m2 m3 m4 m5 m6 m7); obtain ⟨⟨m0, m1, m2, m3, m4, m5, m6, m7⟩, -⟩ := cx8 hX.out; (try clear y0 y1 y2 y3 y4 y5 y6 y7); obtain ⟨⟨y0, y1, y2, y3, y4, y5, y6, y7⟩, -⟩ := cx8 hY.out)
    | (go_at_call 15; (with_reducible refine (cR.out _).mono ?_); rintro e w3 ⟨rfl, hb⟩; have hC := Box.mk (newblk w3 (.cells #[.int .i64 (pa 0), .int .i64 (pb 0), .int .i64 (pa 1), .int .i64 (pb 1), .int .i64 (pa 2), .int .i64 (pb 2), .int .i64 (pa 3), .int .i64 (pb 3)] 29)); have hb := Ext.trans' hb (Ext.alloc (Below.refl _ w3) (.cells #[.int .i64 (pa 0), .int .i64 (pb 0), .int .i64 (pa 1), .int .i64 (pb 1), .int .i64 (pa 2), .int .i64 (pb 2), .int .i64 (pa 3), .int .i64 (pb 3)] 29)); have hx := Ext.trans' hx hb; have hX := Box.mk (Ext.blk hb hX.out); have hY := Box.mk (Ext.blk hb hY.out); have hA := Box.mk (Ext.blk hb hA.out); have hB := Box.mk (Ext.blk hb hB.out); (try clear m0 m1 m2 m3 m4 m5 m6 m7); obtain ⟨⟨m0, m1, m2, m3, m4, m5, m6, m7⟩, -⟩ := cx8 hX.out; (try clear y0 y1 y2 y3 y4 y5 y6 y7); obtain ⟨⟨y0, y1, y2, y3, y4, y5, y6, y7⟩, -⟩ := cx8 hY.out)
    | (go_at_call 16; (with_reducible refine (cU.out _).mono ?_); rintro e w4 ⟨rfl, hb⟩; have hT := Box.mk (newblk w4 (.cells #[.int .i64 (tn a n 0), .int .i64 (tn b n 0), .int .i64 (tn a n 1), .int .i64 (tn b n 1), .int .i64 (tn a n 2), .int .i64 (tn b n 2), .int .i64 (tn a n 3), .int .i64 (tn b n 3)] 29)); have hb := Ext.trans' hb (Ext.alloc (Below.refl _ w4) (.cells #[.int .i64 (tn a n 0), .int .i64 (tn b n 0), .int .i64 (tn a n 1), .int .i64 (tn b n 1), .int .i64 (tn a n 2), .int .i64 (tn b n 2), .int .i64 (tn a n 3), .int .i64 (tn b n 3)] 29)); have hx := Ext.trans' hx hb; have hX := Box.mk (Ext.blk hb hX.out); have hY := Box.mk (Ext.blk hb hY.out); have hA := Box.mk (Ext.blk hb hA.out); have hB := Box.mk (Ext.blk hb hB.out); have hC := Box.mk (Ext.blk hb hC.out)))
  have HX := Box.mk hx
  have hXc : Box (_ = some (Obj.cells (Cells8 a b) 29 (0, 0))) := hX
  have hYk := hY
  clear hx hb m0 m1 m2 m3 m4 m5 m6 m7 y0 y1 y2 y3 y4 y5 y6 y7 hX
  generalize w1.heap.size = A at *
  generalize w2.heap.size = B at *
  generalize w3.heap.size = C at *
  generalize w4.heap.size = D at *
  generalize w4.alloc (.cells #[.int .i64 (tn a n 0), .int .i64 (tn b n 0), .int .i64 (tn a n 1), .int .i64 (tn b n 1), .int .i64 (tn a n 2), .int .i64 (tn b n 2), .int .i64 (tn a n 3), .int .i64 (tn b n 3)] 29) = wk at *
  have hk : Box (Ext wk wk) := ⟨Below.refl _ _⟩
  go_loopw [14] (fun i wr => ∃ k : Nat, k ≤ 4 ∧ i = .int .i64 k ∧ Box (Ext wk wr)) (fun i _ => 4 - (intOf i).toNat)
  case atStart => exact ⟨0, by omega, rfl, hk⟩
  case round =>
    obtain ⟨k, hk, rfl, hE⟩ := hrel
    by_cases hk4 : k < 4
    · have n1 : (0 : Int) ≤ (k : Int) := by omega
      have n2 : (k : Int) < 4 := by omega
      have n2' : decide ((k : Int) < 4) = true := decide_eq_true n2
      have hnn := HN.out
      have h2 : -4 < n.tmod 4 ∧ n.tmod 4 < 4 := ⟨Int.lt_tmod_of_pos n (by decide), Int.tmod_lt_of_pos n (by decide)⟩
      obtain ⟨r, hr⟩ : ∃ r : Nat, (r : Int) = ((k : Int) + n.tmod 4 + 4).tmod 4 := ⟨(((k : Int) + n.tmod 4 + 4).tmod 4).toNat, by rw [Int.tmod_eq_emod_of_nonneg (by omega)]; omega⟩
      have hr4 : r < 4 := by rw [Int.tmod_eq_emod_of_nonneg (by omega)] at hr; omega
      obtain ⟨e1, e2⟩ := HTA.out k hk4 r hr
      obtain ⟨⟨m0, m1⟩, -⟩ := cells8_at (Ext.blk hE.out hXc.out) k hk4
      obtain ⟨⟨m2, m3⟩, -⟩ := cells8_at (a := tn a n) (b := tn b n) (Ext.blk hE.out hT.out) r hr4
      rw [e1] at m2
      rw [e2] at m3
      have q1 : IntKind.i64.wrap (n.tmod 4) = n.tmod 4 := by rw [IntKind.wrap_i64]; omega
      have q2 : IntKind.i64.wrap ((k : Int) + n.tmod 4) = (k : Int) + n.tmod 4 := by rw [IntKind.wrap_i64]; omega
      have q3 : IntKind.i64.wrap ((k : Int) + n.tmod 4 + 4) = (k : Int) + n.tmod 4 + 4 := by rw [IntKind.wrap_i64]; omega
      have q4 : ((k : Int) + n.tmod 4 + 4).tmod 4 = r := hr.symm
      have q5 : IntKind.i64.wrap (r : Int) = r := by rw [IntKind.wrap_i64]; omega
      have q6 : wrap64 ((k : Int) + n.tmod 4) = (k : Int) + n.tmod 4 := by unfold wrap64; omega
      have q7 : wrap64 ((k : Int) + n.tmod 4 + 4) = (k : Int) + n.tmod 4 + 4 := by unfold wrap64; omega
      have q8 : IntKind.i64.wrap ((k : Int) + n.tmod 4 + 4) = (k : Int) + n.tmod 4 + 4 := q3
      have n3 : (0 : Int) ≤ (r : Int) := by omega
      have n4 : (r : Int) < 4 := by omega
      have ge2 := g_struct.2.2
      clear hr e1 e2 hnn h2
      have hq : ∀ w : World, (Op.equalIn 10000 23 (.agg #[.int .i64 (a k), .int .i64 (b k)]) (.agg #[.int .i64 (a k), .int .i64 (b k)])).run Tryd.prog w = .ok true w := fun w => eqG (a k) (b k) w
      generalize a k = x at *
      generalize b k = y at *
      go_wp2
      go_region
      all_goals
        go_wp2
        go_roundw
        case rel => exact ⟨k + 1, by omega, by go_num, ⟨Ext.drew1 hE.out⟩⟩
        case measure => simp [intOf]; omega
    · obtain rfl : k = 4 := by omega
      have hk := hE.out
      (try clear m0 m1 m2 m3 m4 m5 m6 m7); obtain ⟨⟨m0, m1, m2, m3, m4, m5, m6, m7⟩, -⟩ := cx8 (Ext.blk hk hXc.out); (try clear p0 p1 p2 p3 p4 p5 p6 p7); obtain ⟨⟨p0, p1, p2, p3, p4, p5, p6, p7⟩, -⟩ := cx8 (Ext.blk hk hA.out)
      have q1 : ∀ w : World, (Op.equalIn 10000 29 (.agg #[.int .i64 (ta 0), .int .i64 (tb 0), .int .i64 (ta 1), .int .i64 (tb 1), .int .i64 (ta 2), .int .i64 (tb 2), .int .i64 (ta 3), .int .i64 (tb 3)]) (.agg #[.int .i64 (ta 0), .int .i64 (tb 0), .int .i64 (ta 1), .int .i64 (tb 1), .int .i64 (ta 2), .int .i64 (tb 2), .int .i64 (ta 3), .int .i64 (tb 3)])).run Tryd.prog w = .ok true w := fun w => eqA ta tb w
      have ge1 := g4_type.2
      go_wp2_with (first
        | (go_at_call 10; (with_reducible refine (cV.out _).mono ?_); rintro e w5 ⟨rfl, hb⟩; have hk := Ext.trans' hk hb; (try clear m0 m1 m2 m3 m4 m5 m6 m7); obtain ⟨⟨m0, m1, m2, m3, m4, m5, m6, m7⟩, -⟩ := cx8 (Ext.blk hk hXc.out); (try clear p0 p1 p2 p3 p4 p5 p6 p7); obtain ⟨⟨p0, p1, p2, p3, p4, p5, p6, p7⟩, -⟩ := cx8 (Ext.blk hk hA.out)))
      have hk := Ext.drew1 hk
      go_region_held3 (fun w' => (w'.cell? ⟨A, 0, none⟩ = some (.int .i64 (ta 0)) ∧ w'.cell? ⟨A, 1, none⟩ = some (.int .i64 (tb 0)) ∧ w'.cell? ⟨A, 2, none⟩ = some (.int .i64 (ta 1)) ∧ w'.cell? ⟨A, 3, none⟩ = some (.int .i64 (tb 1)) ∧ w'.cell? ⟨A, 4, none⟩ = some (.int .i64 (ta 2)) ∧ w'.cell? ⟨A, 5, none⟩ = some (.int .i64 (tb 2)) ∧ w'.cell? ⟨A, 6, none⟩ = some (.int .i64 (ta 3)) ∧ w'.cell? ⟨A, 7, none⟩ = some (.int .i64 (tb 3))) ∧ (w'.cell? ⟨W.heap.size, 0, none⟩ = some (.int .i64 (a 0)) ∧ w'.cell? ⟨W.heap.size, 1, none⟩ = some (.int .i64 (b 0)) ∧ w'.cell? ⟨W.heap.size, 2, none⟩ = some (.int .i64 (a 1)) ∧ w'.cell? ⟨W.heap.size, 3, none⟩ = some (.int .i64 (b 1)) ∧ w'.cell? ⟨W.heap.size, 4, none⟩ = some (.int .i64 (a 2)) ∧ w'.cell? ⟨W.heap.size, 5, none⟩ = some (.int .i64 (b 2)) ∧ w'.cell? ⟨W.heap.size, 6, none⟩ = some (.int .i64 (a 3)) ∧ w'.cell? ⟨W.heap.size, 7, none⟩ = some (.int .i64 (b 3))))
        (exact ⟨⟨p0, p1, p2, p3, p4, p5, p6, p7⟩, m0, m1, m2, m3, m4, m5, m6, m7⟩)
        (first
          | (go_at_call 17; (with_reducible refine (cS.out _).mono ?_); rintro e w6 ⟨rfl, hb⟩; have hk := Ext.trans' hk hb; (try clear m0 m1 m2 m3 m4 m5 m6 m7); obtain ⟨⟨m0, m1, m2, m3, m4, m5, m6, m7⟩, -⟩ := cx8 (Ext.blk hk hXc.out); (try clear p0 p1 p2 p3 p4 p5 p6 p7); obtain ⟨⟨p0, p1, p2, p3, p4, p5, p6, p7⟩, -⟩ := cx8 (Ext.blk hk hA.out)))
      go_wp2_with (first
        | (go_at_call 17; (with_reducible refine (cB.out _).mono ?_); rintro e w7 ⟨rfl, hb⟩; have hKs := (Ext.trans' hk hb).size; have hBk := newblk w7 (.cells #[.int .i64 (u 0), .int .i64 (v 0), .int .i64 (u 1), .int .i64 (v 1), .int .i64 (u 2), .int .i64 (v 2), .int .i64 (u 3), .int .i64 (v 3)] 29); have hb := Ext.trans' hb (Ext.alloc (Below.refl _ w7) (.cells #[.int .i64 (u 0), .int .i64 (v 0), .int .i64 (u 1), .int .i64 (v 1), .int .i64 (u 2), .int .i64 (v 2), .int .i64 (u 3), .int .i64 (v 3)] 29)); have hk := Ext.trans' hk hb; (try clear m0 m1 m2 m3 m4 m5 m6 m7); obtain ⟨⟨m0, m1, m2, m3, m4, m5, m6, m7⟩, -⟩ := cx8 (Ext.blk hk hXc.out); (try clear p0 p1 p2 p3 p4 p5 p6 p7); obtain ⟨⟨p0, p1, p2, p3, p4, p5, p6, p7⟩, -⟩ := cx8 (Ext.blk hk hA.out)))
      have hK : Box ((w7.alloc (.cells #[.int .i64 (u 0), .int .i64 (v 0), .int .i64 (u 1), .int .i64 (v 1), .int .i64 (u 2), .int .i64 (v 2), .int .i64 (u 3), .int .i64 (v 3)] 29)).heap[w7.heap.size]? = some (.cells (Cells8 (qk u 0) (qk v 0)) 29 (0, 0))) := ⟨hBk⟩
      have hE := Box.mk hk
      generalize w7.heap.size = K at *
      clear hk hBk m0 m1 m2 m3 m4 m5 m6 m7 p0 p1 p2 p3 p4 p5 p6 p7
      go_loopw [16, 17] (fun wh i wr => ∃ k : Nat, k ≤ 4 ∧ i = .int .i64 k ∧ wh = .bool (allWh u v k) ∧ Box (wr.heap[K]? = some (.cells (Cells8 (qk u k) (qk v k)) 29 (0, 0))) ∧ Box (Ext wk wr)) (fun _ i _ => 4 - (intOf i).toNat)
      case atStart => exact ⟨0, by omega, rfl, rfl, hK, hE⟩
      case round =>
        obtain ⟨k, hk, rfl, rfl, hK, hE⟩ := hrel
        by_cases hk4 : k < 4
        · have n1 : (0 : Int) ≤ (k : Int) := by omega
          have n2 : (k : Int) < 4 := by omega
          have n2' : decide ((k : Int) < 4) = true := decide_eq_true n2
          obtain ⟨⟨m0, m1⟩, z0, z1⟩ := cells8_at hK.out k hk4
          have g0 : ∀ f : Nat → Int, qk f k k = f k := fun f => by unfold qk; rw [if_neg (Nat.lt_irrefl k)]
          rw [g0 u] at m0
          rw [g0 v] at m1
          have hl := HLim.out k
          have r1 : IntKind.i64.wrap ((u k).tmod 4) = (u k).tmod 4 := by rw [IntKind.wrap_i64]; have := Int.tmod_lt_of_pos (u k) (show (0:Int) < 4 by decide); have := Int.lt_tmod_of_pos (u k) (show (0:Int) < 4 by decide); omega
          have r2 : IntKind.i64.wrap ((v k).tmod 4) = (v k).tmod 4 := by rw [IntKind.wrap_i64]; have := Int.tmod_lt_of_pos (v k) (show (0:Int) < 4 by decide); have := Int.lt_tmod_of_pos (v k) (show (0:Int) < 4 by decide); omega
          have r3 : IntKind.i64.wrap ((u k).tdiv 4) = (u k).tdiv 4 := by rw [IntKind.wrap_i64]; have := Int.mul_tdiv_add_tmod (u k) 4; have := Int.tmod_lt_of_pos (u k) (show (0:Int) < 4 by decide); have := Int.lt_tmod_of_pos (u k) (show (0:Int) < 4 by decide); omega
          have r4 : IntKind.i64.wrap ((v k).tdiv 4) = (v k).tdiv 4 := by rw [IntKind.wrap_i64]; have := Int.mul_tdiv_add_tmod (v k) 4; have := Int.tmod_lt_of_pos (v k) (show (0:Int) < 4 by decide); have := Int.lt_tmod_of_pos (v k) (show (0:Int) < 4 by decide); omega
          have hst := Box.mk (cells8_qk u v k hk4)
          have key : (allWh u v k = true ∧ ((u k).tmod 4 == 0) = true ∧ ((v k).tmod 4 == 0) = true ∧ allWh u v (k + 1) = true) ∨ (allWh u v k = true ∧ ((u k).tmod 4 == 0) = true ∧ ((v k).tmod 4 == 0) = false ∧ allWh u v (k + 1) = false) ∨ (allWh u v k = true ∧ ((u k).tmod 4 == 0) = false ∧ allWh u v (k + 1) = false) ∨ (allWh u v k = false ∧ allWh u v (k + 1) = false) := by
            rw [allWh_succ]
            unfold wh
            have b1 : ∀ z : Int, decide (z = 0) = (z == 0) := fun z => rfl
            rw [b1, b1]
            cases allWh u v k <;> cases ((u k).tmod 4 == 0) <;> cases ((v k).tmod 4 == 0) <;> simp
          clear hl g0
          have hKn : Box (∀ wx : World, wx.heap[K]? = some (.cells (Cells8 (qk u k) (qk v k)) 29 (0, 0)) → ((wx.setCell ⟨K, k * 2, none⟩ (.int .i64 ((u k).tdiv 4))).setCell ⟨K, k * 2 + 1, none⟩ (.int .i64 ((v k).tdiv 4))).heap[K]? = some (.cells (Cells8 (qk u (k + 1)) (qk v (k + 1))) 29 (0, 0))) := ⟨fun wx h => by
            rw [hst.out]
            exact heap_setCell_same _ K (k * 2 + 1) _ _ _ (heap_setCell_same _ K (k * 2) _ _ _ h)⟩
          have hEn : Box (∀ wx : World, Ext wk wx → ∀ x y : Value, Ext wk ((wx.setCell ⟨K, k * 2, none⟩ x).setCell ⟨K, k * 2 + 1, none⟩ y)) := ⟨fun wx h x y => Ext.set (Ext.set h hKs _ _) hKs _ _⟩
          generalize u k = x at *
          generalize v k = y at *
          rcases key with ⟨e0, e1, e2, e3⟩ | ⟨e0, e1, e2, e3⟩ | ⟨e0, e1, e3⟩ | ⟨e0, e3⟩
          all_goals
            rw [e0]
            have e3 := Box.mk e3
            clear e0
            go_wp2
            go_region
            all_goals
              go_wp2
              go_roundw
              case rel => exact ⟨k + 1, by omega, by go_num, by rw [e3.out], ⟨hKn.out _ hK.out⟩, ⟨hEn.out _ (Ext.drew1 hE.out) _ _⟩⟩
              case measure => simp [intOf]; omega
        · obtain rfl : k = 4 := by omega
          have hk := hE.out
          obtain ⟨⟨y0, y1, y2, y3, y4, y5, y6, y7⟩, -⟩ := cx8 (Ext.blk hk hYk.out)
          have ge1 := g4_type.2
          have qz : ∀ w : World, (Op.equalIn 10000 29 (.agg #[.int .i64 0, .int .i64 0, .int .i64 0, .int .i64 0, .int .i64 0, .int .i64 0, .int .i64 0, .int .i64 0]) (.agg #[.int .i64 0, .int .i64 0, .int .i64 0, .int .i64 0, .int .i64 0, .int .i64 0, .int .i64 0, .int .i64 0])).run Tryd.prog w = .ok true w := fun w => eqA z0 z0 w
          have qp : ∀ w : World, (Op.equalIn 10000 29 (.agg #[.int .i64 (prR a b c d 0), .int .i64 (prI a b c d 0), .int .i64 (prR a b c d 1), .int .i64 (prI a b c d 1), .int .i64 (prR a b c d 2), .int .i64 (prI a b c d 2), .int .i64 (prR a b c d 3), .int .i64 (prI a b c d 3)]) (.agg #[.int .i64 (prR a b c d 0), .int .i64 (prI a b c d 0), .int .i64 (prR a b c d 1), .int .i64 (prI a b c d 1), .int .i64 (prR a b c d 2), .int .i64 (prI a b c d 2), .int .i64 (prR a b c d 3), .int .i64 (prI a b c d 3)])).run Tryd.prog w = .ok true w := fun w => eqA (prR a b c d) (prI a b c d) w
          rcases hI.out with ⟨i0, rfl, rfl, rfl⟩ | ⟨i0, rfl, rfl, rfl⟩
          · have hK4 : wr.heap[K]? = some (.cells #[.int .i64 (qt u 0), .int .i64 (qt v 0), .int .i64 (qt u 1), .int .i64 (qt v 1), .int .i64 (qt u 2), .int .i64 (qt v 2), .int .i64 (qt u 3), .int .i64 (qt v 3)] 29 (0, 0)) := by
              rw [hK.out, cells8_eq (c := qt u) (d := qt v) fun m hm => ⟨by unfold qk; rw [if_pos hm]; rfl, by unfold qk; rw [if_pos hm]; rfl⟩]
              rfl
            obtain ⟨⟨k0, k1, k2, k3, k4, k5, k6, k7⟩, -⟩ := cx8 hK4
            obtain ⟨⟨p0, p1, p2, p3, p4, p5, p6, p7⟩, -⟩ := cx8 (Ext.blk hk hB.out)
            have qq : ∀ w : World, (Op.equalIn 10000 29 (.agg #[.int .i64 (qt u 0), .int .i64 (qt v 0), .int .i64 (qt u 1), .int .i64 (qt v 1), .int .i64 (qt u 2), .int .i64 (qt v 2), .int .i64 (qt u 3), .int .i64 (qt v 3)]) (.agg #[.int .i64 (qt u 0), .int .i64 (qt v 0), .int .i64 (qt u 1), .int .i64 (qt v 1), .int .i64 (qt u 2), .int .i64 (qt v 2), .int .i64 (qt u 3), .int .i64 (qt v 3)])).run Tryd.prog w = .ok true w := fun w => eqA (qt u) (qt v) w
            rw [i0]
            clear i0 hI cI hB hK hK4
            generalize qt u = qu at *
            generalize qt v = qv at *
            rcases hP.out with ⟨p0', rfl, rfl, rfl⟩ | ⟨p0', rfl, rfl, rfl⟩
            · have cQ1 := Box.mk (cQ.out p0')
              rw [p0'] at cY
              clear p0' hP cR cQ
              generalize prR a b c d = pa at *
              generalize prI a b c d = pb at *
              go_wp2_with (first
                | (go_at_call 10; (with_reducible refine (cY.out _).mono ?_); rintro e w8 ⟨rfl, hb⟩; have hk := Ext.trans' hk hb))
              have hk := Ext.drew1 hk
              obtain ⟨⟨c0, c1, c2, c3, c4, c5, c6, c7⟩, -⟩ := cx8 (Ext.blk hk hC.out)
              clear y0 y1 y2 y3 y4 y5 y6 y7
              obtain ⟨⟨y0, y1, y2, y3, y4, y5, y6, y7⟩, -⟩ := cx8 (Ext.blk hk hYk.out)
              obtain ⟨⟨m0, m1, m2, m3, m4, m5, m6, m7⟩, -⟩ := cx8 (Ext.blk hk hXc.out)
              go_region_held3 (fun w' => (w'.cell? ⟨C, 0, none⟩ = some (.int .i64 (pa 0)) ∧ w'.cell? ⟨C, 1, none⟩ = some (.int .i64 (pb 0)) ∧ w'.cell? ⟨C, 2, none⟩ = some (.int .i64 (pa 1)) ∧ w'.cell? ⟨C, 3, none⟩ = some (.int .i64 (pb 1)) ∧ w'.cell? ⟨C, 4, none⟩ = some (.int .i64 (pa 2)) ∧ w'.cell? ⟨C, 5, none⟩ = some (.int .i64 (pb 2)) ∧ w'.cell? ⟨C, 6, none⟩ = some (.int .i64 (pa 3)) ∧ w'.cell? ⟨C, 7, none⟩ = some (.int .i64 (pb 3))) ∧ (w'.cell? ⟨W.heap.size, 0, none⟩ = some (.int .i64 (a 0)) ∧ w'.cell? ⟨W.heap.size, 1, none⟩ = some (.int .i64 (b 0)) ∧ w'.cell? ⟨W.heap.size, 2, none⟩ = some (.int .i64 (a 1)) ∧ w'.cell? ⟨W.heap.size, 3, none⟩ = some (.int .i64 (b 1)) ∧ w'.cell? ⟨W.heap.size, 4, none⟩ = some (.int .i64 (a 2)) ∧ w'.cell? ⟨W.heap.size, 5, none⟩ = some (.int .i64 (b 2)) ∧ w'.cell? ⟨W.heap.size, 6, none⟩ = some (.int .i64 (a 3)) ∧ w'.cell? ⟨W.heap.size, 7, none⟩ = some (.int .i64 (b 3))) ∧ (w'.cell? ⟨W.heap.size + 1, 0, none⟩ = some (.int .i64 (c 0)) ∧ w'.cell? ⟨W.heap.size + 1, 1, none⟩ = some (.int .i64 (d 0)) ∧ w'.cell? ⟨W.heap.size + 1, 2, none⟩ = some (.int .i64 (c 1)) ∧ w'.cell? ⟨W.heap.size + 1, 3, none⟩ = some (.int .i64 (d 1)) ∧ w'.cell? ⟨W.heap.size + 1, 4, none⟩ = some (.int .i64 (c 2)) ∧ w'.cell? ⟨W.heap.size + 1, 5, none⟩ = some (.int .i64 (d 2)) ∧ w'.cell? ⟨W.heap.size + 1, 6, none⟩ = some (.int .i64 (c 3)) ∧ w'.cell? ⟨W.heap.size + 1, 7, none⟩ = some (.int .i64 (d 3))))
                (exact ⟨⟨c0, c1, c2, c3, c4, c5, c6, c7⟩, ⟨m0, m1, m2, m3, m4, m5, m6, m7⟩, y0, y1, y2, y3, y4, y5, y6, y7⟩)
                (first
                  | (go_at_call 18; (with_reducible refine (cQ1.out _).mono ?_); rintro e w9 ⟨rfl, hb⟩; have hk := Ext.trans' hk hb; have c0 := Ext.cell hb c0; have c1 := Ext.cell hb c1; have c2 := Ext.cell hb c2; have c3 := Ext.cell hb c3; have c4 := Ext.cell hb c4; have c5 := Ext.cell hb c5; have c6 := Ext.cell hb c6; have c7 := Ext.cell hb c7; have y0 := Ext.cell hb y0; have y1 := Ext.cell hb y1; have y2 := Ext.cell hb y2; have y3 := Ext.cell hb y3; have y4 := Ext.cell hb y4; have y5 := Ext.cell hb y5; have y6 := Ext.cell hb y6; have y7 := Ext.cell hb y7; have m0 := Ext.cell hb m0; have m1 := Ext.cell hb m1; have m2 := Ext.cell hb m2; have m3 := Ext.cell hb m3; have m4 := Ext.cell hb m4; have m5 := Ext.cell hb m5; have m6 := Ext.cell hb m6; have m7 := Ext.cell hb m7)
                  | (go_at_call 8; (with_reducible refine (ck.out _ (Ext.trans' HX.out hk)).mono ?_); rintro e w9 ⟨rfl, hb⟩; have hk := Ext.trans' hk hb; have c0 := Ext.cell hb c0; have c1 := Ext.cell hb c1; have c2 := Ext.cell hb c2; have c3 := Ext.cell hb c3; have c4 := Ext.cell hb c4; have c5 := Ext.cell hb c5; have c6 := Ext.cell hb c6; have c7 := Ext.cell hb c7; have y0 := Ext.cell hb y0; have y1 := Ext.cell hb y1; have y2 := Ext.cell hb y2; have y3 := Ext.cell hb y3; have y4 := Ext.cell hb y4; have y5 := Ext.cell hb y5; have y6 := Ext.cell hb y6; have y7 := Ext.cell hb y7; have m0 := Ext.cell hb m0; have m1 := Ext.cell hb m1; have m2 := Ext.cell hb m2; have m3 := Ext.cell hb m3; have m4 := Ext.cell hb m4; have m5 := Ext.cell hb m5; have m6 := Ext.cell hb m6; have m7 := Ext.cell hb m7))
              go_wp2
              go_ret
              exact ⟨rfl, Ext.trans' HX.out hk⟩
            · rw [p0'] at cY
              have hC0 : wk.heap[C]? = some (.cells #[.int .i64 0, .int .i64 0, .int .i64 0, .int .i64 0, .int .i64 0, .int .i64 0, .int .i64 0, .int .i64 0] 29 (0, 0)) := hC.out
              clear p0' hP cR qp cQ hC
              have HZ := Box.mk hC0
              clear hC0
              go_wp2_with (first
                | (go_at_call 10; (with_reducible refine (cY.out _).mono ?_); rintro e w8 ⟨rfl, hb⟩; have hk := Ext.trans' hk hb; obtain ⟨⟨c0, c1, c2, c3, c4, c5, c6, c7⟩, -⟩ := cx8 (Ext.blk hk HZ.out))
                | (go_at_call 8; (with_reducible refine (ck.out _ (Ext.trans' HX.out hk)).mono ?_); rintro e w9 ⟨rfl, hb⟩; have hk := Ext.trans' hk hb))
              go_ret
              exact ⟨rfl, Ext.trans' HX.out hk⟩
          · have hB0 : wk.heap[B]? = some (.cells #[.int .i64 0, .int .i64 0, .int .i64 0, .int .i64 0, .int .i64 0, .int .i64 0, .int .i64 0, .int .i64 0] 29 (0, 0)) := hB.out
            obtain ⟨⟨p0, p1, p2, p3, p4, p5, p6, p7⟩, -⟩ := cx8 (Ext.blk hk hB0)
            rw [i0]
            clear i0 hI cI hB hK hB0
            rcases hP.out with ⟨p0', rfl, rfl, rfl⟩ | ⟨p0', rfl, rfl, rfl⟩
            · have cQ1 := Box.mk (cQ.out p0')
              rw [p0'] at cY
              clear p0' hP cR cQ
              generalize prR a b c d = pa at *
              generalize prI a b c d = pb at *
              go_wp2_with (first
                | (go_at_call 10; (with_reducible refine (cY.out _).mono ?_); rintro e w8 ⟨rfl, hb⟩; have hk := Ext.trans' hk hb))
              have hk := Ext.drew1 hk
              obtain ⟨⟨c0, c1, c2, c3, c4, c5, c6, c7⟩, -⟩ := cx8 (Ext.blk hk hC.out)
              clear y0 y1 y2 y3 y4 y5 y6 y7
              obtain ⟨⟨y0, y1, y2, y3, y4, y5, y6, y7⟩, -⟩ := cx8 (Ext.blk hk hYk.out)
              obtain ⟨⟨m0, m1, m2, m3, m4, m5, m6, m7⟩, -⟩ := cx8 (Ext.blk hk hXc.out)
              go_region_held3 (fun w' => (w'.cell? ⟨C, 0, none⟩ = some (.int .i64 (pa 0)) ∧ w'.cell? ⟨C, 1, none⟩ = some (.int .i64 (pb 0)) ∧ w'.cell? ⟨C, 2, none⟩ = some (.int .i64 (pa 1)) ∧ w'.cell? ⟨C, 3, none⟩ = some (.int .i64 (pb 1)) ∧ w'.cell? ⟨C, 4, none⟩ = some (.int .i64 (pa 2)) ∧ w'.cell? ⟨C, 5, none⟩ = some (.int .i64 (pb 2)) ∧ w'.cell? ⟨C, 6, none⟩ = some (.int .i64 (pa 3)) ∧ w'.cell? ⟨C, 7, none⟩ = some (.int .i64 (pb 3))) ∧ (w'.cell? ⟨W.heap.size, 0, none⟩ = some (.int .i64 (a 0)) ∧ w'.cell? ⟨W.heap.size, 1, none⟩ = some (.int .i64 (b 0)) ∧ w'.cell? ⟨W.heap.size, 2, none⟩ = some (.int .i64 (a 1)) ∧ w'.cell? ⟨W.heap.size, 3, none⟩ = some (.int .i64 (b 1)) ∧ w'.cell? ⟨W.heap.size, 4, none⟩ = some (.int .i64 (a 2)) ∧ w'.cell? ⟨W.heap.size, 5, none⟩ = some (.int .i64 (b 2)) ∧ w'.cell? ⟨W.heap.size, 6, none⟩ = some (.int .i64 (a 3)) ∧ w'.cell? ⟨W.heap.size, 7, none⟩ = some (.int .i64 (b 3))) ∧ (w'.cell? ⟨W.heap.size + 1, 0, none⟩ = some (.int .i64 (c 0)) ∧ w'.cell? ⟨W.heap.size + 1, 1, none⟩ = some (.int .i64 (d 0)) ∧ w'.cell? ⟨W.heap.size + 1, 2, none⟩ = some (.int .i64 (c 1)) ∧ w'.cell? ⟨W.heap.size + 1, 3, none⟩ = some (.int .i64 (d 1)) ∧ w'.cell? ⟨W.heap.size + 1, 4, none⟩ = some (.int .i64 (c 2)) ∧ w'.cell? ⟨W.heap.size + 1, 5, none⟩ = some (.int .i64 (d 2)) ∧ w'.cell? ⟨W.heap.size + 1, 6, none⟩ = some (.int .i64 (c 3)) ∧ w'.cell? ⟨W.heap.size + 1, 7, none⟩ = some (.int .i64 (d 3))))
                (exact ⟨⟨c0, c1, c2, c3, c4, c5, c6, c7⟩, ⟨m0, m1, m2, m3, m4, m5, m6, m7⟩, y0, y1, y2, y3, y4, y5, y6, y7⟩)
                (first
                  | (go_at_call 18; (with_reducible refine (cQ1.out _).mono ?_); rintro e w9 ⟨rfl, hb⟩; have hk := Ext.trans' hk hb; have c0 := Ext.cell hb c0; have c1 := Ext.cell hb c1; have c2 := Ext.cell hb c2; have c3 := Ext.cell hb c3; have c4 := Ext.cell hb c4; have c5 := Ext.cell hb c5; have c6 := Ext.cell hb c6; have c7 := Ext.cell hb c7; have y0 := Ext.cell hb y0; have y1 := Ext.cell hb y1; have y2 := Ext.cell hb y2; have y3 := Ext.cell hb y3; have y4 := Ext.cell hb y4; have y5 := Ext.cell hb y5; have y6 := Ext.cell hb y6; have y7 := Ext.cell hb y7; have m0 := Ext.cell hb m0; have m1 := Ext.cell hb m1; have m2 := Ext.cell hb m2; have m3 := Ext.cell hb m3; have m4 := Ext.cell hb m4; have m5 := Ext.cell hb m5; have m6 := Ext.cell hb m6; have m7 := Ext.cell hb m7)
                  | (go_at_call 8; (with_reducible refine (ck.out _ (Ext.trans' HX.out hk)).mono ?_); rintro e w9 ⟨rfl, hb⟩; have hk := Ext.trans' hk hb; have c0 := Ext.cell hb c0; have c1 := Ext.cell hb c1; have c2 := Ext.cell hb c2; have c3 := Ext.cell hb c3; have c4 := Ext.cell hb c4; have c5 := Ext.cell hb c5; have c6 := Ext.cell hb c6; have c7 := Ext.cell hb c7; have y0 := Ext.cell hb y0; have y1 := Ext.cell hb y1; have y2 := Ext.cell hb y2; have y3 := Ext.cell hb y3; have y4 := Ext.cell hb y4; have y5 := Ext.cell hb y5; have y6 := Ext.cell hb y6; have y7 := Ext.cell hb y7; have m0 := Ext.cell hb m0; have m1 := Ext.cell hb m1; have m2 := Ext.cell hb m2; have m3 := Ext.cell hb m3; have m4 := Ext.cell hb m4; have m5 := Ext.cell hb m5; have m6 := Ext.cell hb m6; have m7 := Ext.cell hb m7))
              go_wp2
              go_ret
              exact ⟨rfl, Ext.trans' HX.out hk⟩
            · rw [p0'] at cY
              have hC0 : wk.heap[C]? = some (.cells #[.int .i64 0, .int .i64 0, .int .i64 0, .int .i64 0, .int .i64 0, .int .i64 0, .int .i64 0, .int .i64 0] 29 (0, 0)) := hC.out
              clear p0' hP cR qp cQ hC
              have HZ := Box.mk hC0
              clear hC0
              go_wp2_with (first
                | (go_at_call 10; (with_reducible refine (cY.out _).mono ?_); rintro e w8 ⟨rfl, hb⟩; have hk := Ext.trans' hk hb; obtain ⟨⟨c0, c1, c2, c3, c4, c5, c6, c7⟩, -⟩ := cx8 (Ext.blk hk HZ.out))
                | (go_at_call 8; (with_reducible refine (ck.out _ (Ext.trans' HX.out hk)).mono ?_); rintro e w9 ⟨rfl, hb⟩; have hk := Ext.trans' hk hb))
              go_ret
              exact ⟨rfl, Ext.trans' HX.out hk⟩
-- the walk where x is not valid, and the law
set_option maxRecDepth 100000 in
set_option maxHeartbeats 16000000 in
theorem strans_F (a b c d : Nat → Int) (n : Int) (W : World) (hn : -9223372036854775808 ≤ n ∧ n ≤ 9223372036854775807) (hv : allV a b 4 = false)
    (ht : EnvS W) : Calls Tryd.prog 4 #[(.agg #[.int .i64 (a 0), .int .i64 (b 0), .int .i64 (a 1), .int .i64 (b 1), .int .i64 (a 2), .int .i64 (b 2), .int .i64 (a 3), .int .i64 (b 3)]), (.agg #[.int .i64 (c 0), .int .i64 (d 0), .int .i64 (c 1), .int .i64 (d 1), .int .i64 (c 2), .int .i64 (d 2), .int .i64 (c 3), .int .i64 (d 3)]), .int .i64 n] W fun e W' => e = .returned (.bool true) ∧ Ext W W' := by
  have ck : Box (∀ w, Ext W w → Calls Tryd.prog 8 #[] w fun e w' => e = .returned (.bool true) ∧ Ext w w') := ⟨fun w h => known_any w (ht.ext h)⟩
  have cT : Box (∀ w, _) := ⟨fun w => transform_bad a b w hv⟩
  have cI : Box (∀ w, _) := ⟨fun w => inverse_bad a b w hv⟩
  have cR : Box (∀ w, _) := ⟨fun w => product_bad a b c d w (Or.inl hv)⟩
  have cU : Box (∀ w, _) := ⟨fun w => turn_any a b n w⟩
  have cV : Box (∀ w, Calls Tryd.prog 10 #[(.agg #[.int .i64 (a 0), .int .i64 (b 0), .int .i64 (a 1), .int .i64 (b 1), .int .i64 (a 2), .int .i64 (b 2), .int .i64 (a 3), .int .i64 (b 3)])] w fun e w' => e = .returned (.bool false) ∧ Ext w w') := ⟨fun w => by rw [← hv]; exact lvalid_any a b w⟩
  have hTA : ∀ (j : Nat), j < 4 → ∀ r : Nat, (r : Int) = ((j : Int) + n.tmod 4 + 4).tmod 4 → tn a n r = a j ∧ tn b n r = b j := fun j hj r hr => ⟨turned_at a n j hj r hr, turned_at b n j hj r hr⟩
  have HTA := Box.mk hTA
  have HN := Box.mk hn
  obtain ⟨x1, b1⟩ := x8 W a b
  obtain ⟨x2, b2⟩ := x8 (W.alloc (.cells #[.int .i64 (a 0), .int .i64 (b 0), .int .i64 (a 1), .int .i64 (b 1), .int .i64 (a 2), .int .i64 (b 2), .int .i64 (a 3), .int .i64 (b 3)] 29)) c d
  have hx : Ext W ((W.alloc (.cells #[.int .i64 (a 0), .int .i64 (b 0), .int .i64 (a 1), .int .i64 (b 1), .int .i64 (a 2), .int .i64 (b 2), .int .i64 (a 3), .int .i64 (b 3)] 29)).alloc (.cells #[.int .i64 (c 0), .int .i64 (d 0), .int .i64 (c 1), .int .i64 (d 1), .int .i64 (c 2), .int .i64 (d 2), .int .i64 (c 3), .int .i64 (d 3)] 29)) := Ext.trans' x1 x2
  have hX : Box (((W.alloc (.cells #[.int .i64 (a 0), .int .i64 (b 0), .int .i64 (a 1), .int .i64 (b 1), .int .i64 (a 2), .int .i64 (b 2), .int .i64 (a 3), .int .i64 (b 3)] 29)).alloc (.cells #[.int .i64 (c 0), .int .i64 (d 0), .int .i64 (c 1), .int .i64 (d 1), .int .i64 (c 2), .int .i64 (d 2), .int .i64 (c 3), .int .i64 (d 3)] 29)).heap[W.heap.size]? = some (.cells #[.int .i64 (a 0), .int .i64 (b 0), .int .i64 (a 1), .int .i64 (b 1), .int .i64 (a 2), .int .i64 (b 2), .int .i64 (a 3), .int .i64 (b 3)] 29 (0, 0))) := ⟨Ext.blk x2 b1⟩
  have hY : Box (((W.alloc (.cells #[.int .i64 (a 0), .int .i64 (b 0), .int .i64 (a 1), .int .i64 (b 1), .int .i64 (a 2), .int .i64 (b 2), .int .i64 (a 3), .int .i64 (b 3)] 29)).alloc (.cells #[.int .i64 (c 0), .int .i64 (d 0), .int .i64 (c 1), .int .i64 (d 1), .int .i64 (c 2), .int .i64 (d 2), .int .i64 (c 3), .int .i64 (d 3)] 29)).heap[W.heap.size + 1]? = some (.cells #[.int .i64 (c 0), .int .i64 (d 0), .int .i64 (c 1), .int .i64 (d 1), .int .i64 (c 2), .int .i64 (d 2), .int .i64 (c 3), .int .i64 (d 3)] 29 (0, 0))) := ⟨by
    rw [show (W.alloc (.cells #[.int .i64 (a 0), .int .i64 (b 0), .int .i64 (a 1), .int .i64 (b 1), .int .i64 (a 2), .int .i64 (b 2), .int .i64 (a 3), .int .i64 (b 3)] 29)).heap.size = W.heap.size + 1 by simp] at b2; exact b2⟩
  (try clear m0 m1 m2 m3 m4 m5 m6 m7); obtain ⟨⟨m0, m1, m2, m3, m4, m5, m6, m7⟩, -⟩ := cx8 hX.out
  (try clear y0 y1 y2 y3 y4 y5 y6 y7); obtain ⟨⟨y0, y1, y2, y3, y4, y5, y6, y7⟩, -⟩ := cx8 hY.out
  clear hv hTA hn ht x1 x2 b1 b2
  go_enter Tryd.func4, Tryd.ntmps4
  go_wp2_with (first
    | (go_at_call 13; (with_reducible refine (cT.out _).mono ?_); rintro e w1 ⟨rfl, hb⟩; have hA := Box.mk (newblk w1 (.cells #[.int .i64 0, .int .i64 0, .int .i64 0, .int .i64 0, .int .i64 0, .int .i64 0, .int .i64 0, .int .i64 0] 29)); have hb := Ext.trans' hb (Ext.alloc (Below.refl _ w1) (.cells #[.int .i64 0, .int .i64 0, .int .i64 0, .int .i64 0, .int .i64 0, .int .i64 0, .int .i64 0, .int .i64 0] 29)); have hx := Ext.trans' hx hb; have hX := Box.mk (Ext.blk hb hX.out); have hY := Box.mk (Ext.blk hb hY.out); (try clear m0 m1 m2 m3 m4 m5 m6 m7); obtain ⟨⟨m0, m1, m2, m3, m4, m5, m6, m7⟩, -⟩ := cx8 hX.out; (try clear y0 y1 y2 y3 y4 y5 y6 y7); obtain ⟨⟨y0, y1, y2, y3, y4, y5, y6, y7⟩, -⟩ := cx8 hY.out)
    | (go_at_call 14; (with_reducible refine (cI.out _).mono ?_); rintro e w2 ⟨rfl, hb⟩; have hB := Box.mk (newblk w2 (.cells #[.int .i64 0, .int .i64 0, .int .i64 0, .int .i64 0, .int .i64 0, .int .i64 0, .int .i64 0, .int .i64 0] 29)); have hb := Ext.trans' hb (Ext.alloc (Below.refl _ w2) (.cells #[.int .i64 0, .int .i64 0, .int .i64 0, .int .i64 0, .int .i64 0, .int .i64 0, .int .i64 0, .int .i64 0] 29)); have hx := Ext.trans' hx hb; have hX := Box.mk (Ext.blk hb hX.out); have hY := Box.mk (Ext.blk hb hY.out); have hA := Box.mk (Ext.blk hb hA.out); (try clear m0 m1 m2 m3 m4 m5 m6 m7); obtain ⟨⟨m0, m1, m2, m3, m4, m5, m6, m7⟩, -⟩ := cx8 hX.out; (try clear y0 y1 y2 y3 y4 y5 y6 y7); obtain ⟨⟨y0, y1, y2, y3, y4, y5, y6, y7⟩, -⟩ := cx8 hY.out)
    | (go_at_call 15; (with_reducible refine (cR.out _).mono ?_); rintro e w3 ⟨rfl, hb⟩; have hC := Box.mk (newblk w3 (.cells #[.int .i64 0, .int .i64 0, .int .i64 0, .int .i64 0, .int .i64 0, .int .i64 0, .int .i64 0, .int .i64 0] 29)); have hb := Ext.trans' hb (Ext.alloc (Below.refl _ w3) (.cells #[.int .i64 0, .int .i64 0, .int .i64 0, .int .i64 0, .int .i64 0, .int .i64 0, .int .i64 0, .int .i64 0] 29)); have hx := Ext.trans' hx hb; have hX := Box.mk (Ext.blk hb hX.out); have hY := Box.mk (Ext.blk hb hY.out); have hA := Box.mk (Ext.blk hb hA.out); have hB := Box.mk (Ext.blk hb hB.out); (try clear m0 m1 m2 m3 m4 m5 m6 m7); obtain ⟨⟨m0, m1, m2, m3, m4, m5, m6, m7⟩, -⟩ := cx8 hX.out; (try clear y0 y1 y2 y3 y4 y5 y6 y7); obtain ⟨⟨y0, y1, y2, y3, y4, y5, y6, y7⟩, -⟩ := cx8 hY.out)
    | (go_at_call 16; (with_reducible refine (cU.out _).mono ?_); rintro e w4 ⟨rfl, hb⟩; have hT := Box.mk (newblk w4 (.cells #[.int .i64 (tn a n 0), .int .i64 (tn b n 0), .int .i64 (tn a n 1), .int .i64 (tn b n 1), .int .i64 (tn a n 2), .int .i64 (tn b n 2), .int .i64 (tn a n 3), .int .i64 (tn b n 3)] 29)); have hb := Ext.trans' hb (Ext.alloc (Below.refl _ w4) (.cells #[.int .i64 (tn a n 0), .int .i64 (tn b n 0), .int .i64 (tn a n 1), .int .i64 (tn b n 1), .int .i64 (tn a n 2), .int .i64 (tn b n 2), .int .i64 (tn a n 3), .int .i64 (tn b n 3)] 29)); have hx := Ext.trans' hx hb; have hX := Box.mk (Ext.blk hb hX.out); have hA := Box.mk (Ext.blk hb hA.out); have hB := Box.mk (Ext.blk hb hB.out); have hC := Box.mk (Ext.blk hb hC.out)))
  have HX := Box.mk hx
  have hXc : Box (_ = some (Obj.cells (Cells8 a b) 29 (0, 0))) := hX
  clear hx hb m0 m1 m2 m3 m4 m5 m6 m7 y0 y1 y2 y3 y4 y5 y6 y7 hX
  generalize w1.heap.size = A at *
  generalize w2.heap.size = B at *
  generalize w3.heap.size = C at *
  generalize w4.heap.size = D at *
  generalize w4.alloc (.cells #[.int .i64 (tn a n 0), .int .i64 (tn b n 0), .int .i64 (tn a n 1), .int .i64 (tn b n 1), .int .i64 (tn a n 2), .int .i64 (tn b n 2), .int .i64 (tn a n 3), .int .i64 (tn b n 3)] 29) = wk at *
  have hk : Box (Ext wk wk) := ⟨Below.refl _ _⟩
  go_loopw [14] (fun i wr => ∃ k : Nat, k ≤ 4 ∧ i = .int .i64 k ∧ Box (Ext wk wr)) (fun i _ => 4 - (intOf i).toNat)
  case atStart => exact ⟨0, by omega, rfl, hk⟩
  case round =>
    obtain ⟨k, hk, rfl, hE⟩ := hrel
    by_cases hk4 : k < 4
    · have n1 : (0 : Int) ≤ (k : Int) := by omega
      have n2 : (k : Int) < 4 := by omega
      have n2' : decide ((k : Int) < 4) = true := decide_eq_true n2
      have hnn := HN.out
      have h2 : -4 < n.tmod 4 ∧ n.tmod 4 < 4 := ⟨Int.lt_tmod_of_pos n (by decide), Int.tmod_lt_of_pos n (by decide)⟩
      obtain ⟨r, hr⟩ : ∃ r : Nat, (r : Int) = ((k : Int) + n.tmod 4 + 4).tmod 4 := ⟨(((k : Int) + n.tmod 4 + 4).tmod 4).toNat, by rw [Int.tmod_eq_emod_of_nonneg (by omega)]; omega⟩
      have hr4 : r < 4 := by rw [Int.tmod_eq_emod_of_nonneg (by omega)] at hr; omega
      obtain ⟨e1, e2⟩ := HTA.out k hk4 r hr
      obtain ⟨⟨m0, m1⟩, -⟩ := cells8_at (Ext.blk hE.out hXc.out) k hk4
      obtain ⟨⟨m2, m3⟩, -⟩ := cells8_at (a := tn a n) (b := tn b n) (Ext.blk hE.out hT.out) r hr4
      rw [e1] at m2
      rw [e2] at m3
      have q1 : IntKind.i64.wrap (n.tmod 4) = n.tmod 4 := by rw [IntKind.wrap_i64]; omega
      have q2 : IntKind.i64.wrap ((k : Int) + n.tmod 4) = (k : Int) + n.tmod 4 := by rw [IntKind.wrap_i64]; omega
      have q3 : IntKind.i64.wrap ((k : Int) + n.tmod 4 + 4) = (k : Int) + n.tmod 4 + 4 := by rw [IntKind.wrap_i64]; omega
      have q4 : ((k : Int) + n.tmod 4 + 4).tmod 4 = r := hr.symm
      have q5 : IntKind.i64.wrap (r : Int) = r := by rw [IntKind.wrap_i64]; omega
      have q6 : wrap64 ((k : Int) + n.tmod 4) = (k : Int) + n.tmod 4 := by unfold wrap64; omega
      have q7 : wrap64 ((k : Int) + n.tmod 4 + 4) = (k : Int) + n.tmod 4 + 4 := by unfold wrap64; omega
      have q8 : IntKind.i64.wrap ((k : Int) + n.tmod 4 + 4) = (k : Int) + n.tmod 4 + 4 := q3
      have n3 : (0 : Int) ≤ (r : Int) := by omega
      have n4 : (r : Int) < 4 := by omega
      have ge2 := g_struct.2.2
      clear hr e1 e2 hnn h2
      have hq : ∀ w : World, (Op.equalIn 10000 23 (.agg #[.int .i64 (a k), .int .i64 (b k)]) (.agg #[.int .i64 (a k), .int .i64 (b k)])).run Tryd.prog w = .ok true w := fun w => eqG (a k) (b k) w
      generalize a k = x at *
      generalize b k = y at *
      go_wp2
      go_region
      all_goals
        go_wp2
        go_roundw
        case rel => exact ⟨k + 1, by omega, by go_num, ⟨Ext.drew1 hE.out⟩⟩
        case measure => simp [intOf]; omega
    · obtain rfl : k = 4 := by omega
      have hk := hE.out
      obtain ⟨⟨m0, m1, m2, m3, m4, m5, m6, m7⟩, -⟩ := cx8 (Ext.blk hk hXc.out)
      have ge1 := g4_type.2
      have qz : ∀ w : World, (Op.equalIn 10000 29 (.agg #[.int .i64 0, .int .i64 0, .int .i64 0, .int .i64 0, .int .i64 0, .int .i64 0, .int .i64 0, .int .i64 0]) (.agg #[.int .i64 0, .int .i64 0, .int .i64 0, .int .i64 0, .int .i64 0, .int .i64 0, .int .i64 0, .int .i64 0])).run Tryd.prog w = .ok true w := fun w => eqA z0 z0 w
      go_wp2_with (first
        | (go_at_call 10; (with_reducible refine (cV.out _).mono ?_); rintro e w5 ⟨rfl, hb⟩; have hk := Ext.trans' hk hb; obtain ⟨⟨p0, p1, p2, p3, p4, p5, p6, p7⟩, -⟩ := cx8 (Ext.blk hk hA.out); obtain ⟨⟨q0, q1, q2, q3, q4, q5, q6, q7⟩, -⟩ := cx8 (Ext.blk hk hB.out); obtain ⟨⟨c0, c1, c2, c3, c4, c5, c6, c7⟩, -⟩ := cx8 (Ext.blk hk hC.out))
        | (go_at_call 8; (with_reducible refine (ck.out _ (Ext.trans' HX.out hk)).mono ?_); rintro e w9 ⟨rfl, hb⟩; have hk := Ext.trans' hk hb))
      go_ret
      exact ⟨rfl, Ext.trans' HX.out hk⟩
/-- four numbers that come in: eight integers -/
def GArg (v : Value) : Prop := ∃ a b : Nat → Int, v = (.agg #[.int .i64 (a 0), .int .i64 (b 0), .int .i64 (a 1), .int .i64 (b 1), .int .i64 (a 2), .int .i64 (b 2), .int .i64 (a 3), .int .i64 (b 3)])
theorem lawSeasonTransforms_walk (x y : Value) (n : Int) (W : World) (hx : GArg x) (hy : GArg y) (hn : (Lit.int .i64 n).wf = true) (ht : EnvS W) :
    Calls Tryd.prog 4 #[x, y, .int .i64 n] W fun e W' => e = .returned (.bool true) ∧ Below W.heap.size W W' := by
  obtain ⟨a, b, rfl⟩ := hx
  obtain ⟨c, d, rfl⟩ := hy
  have hn := wf_i64 hn
  cases hv : allV a b 4 with
  | false => exact strans_F a b c d n W hn hv ht
  | true =>
    have cI : ∀ w, Calls Tryd.prog 14 #[(.agg #[.int .i64 (a 0), .int .i64 (b 0), .int .i64 (a 1), .int .i64 (b 1), .int .i64 (a 2), .int .i64 (b 2), .int .i64 (a 3), .int .i64 (b 3)])] w fun e w' => e = .returned (if allWh (iR a b) (iI a b) 4 = true then .tuple #[.agg (Cells8 (qt (iR a b)) (qt (iI a b))), .int .i64 0] else .tuple #[.agg #[.int .i64 0, .int .i64 0, .int .i64 0, .int .i64 0, .int .i64 0, .int .i64 0, .int .i64 0, .int .i64 0], .int .i64 10]) ∧ Ext w w' := fun w => inverse_ok a b w hv
    cases hw : allWh (iR a b) (iI a b) 4 with
    | true =>
      have cI1 : ∀ w, Calls Tryd.prog 14 #[(.agg #[.int .i64 (a 0), .int .i64 (b 0), .int .i64 (a 1), .int .i64 (b 1), .int .i64 (a 2), .int .i64 (b 2), .int .i64 (a 3), .int .i64 (b 3)])] w fun e w' => e = .returned (.tuple #[.agg (Cells8 (qt (iR a b)) (qt (iI a b))), .int .i64 0]) ∧ Ext w w' := fun w => by have := cI w; rw [hw, if_pos rfl] at this; exact this
      cases hy : allV c d 4 with
      | true => exact strans_T a b c d (qt (iR a b)) (qt (iI a b)) (prR a b c d) (prI a b c d) n 0 0 W hn hv (Or.inl ⟨hw, rfl, rfl, rfl⟩) (Or.inl ⟨hy, rfl, rfl, rfl⟩) cI1 (fun w => product_ok a b c d w hv hy) ht
      | false => exact strans_T a b c d (qt (iR a b)) (qt (iI a b)) z0 z0 n 0 2 W hn hv (Or.inl ⟨hw, rfl, rfl, rfl⟩) (Or.inr ⟨hy, rfl, rfl, rfl⟩) cI1 (fun w => product_bad a b c d w (Or.inr ⟨hv, hy⟩)) ht
    | false =>
      have cI1 : ∀ w, Calls Tryd.prog 14 #[(.agg #[.int .i64 (a 0), .int .i64 (b 0), .int .i64 (a 1), .int .i64 (b 1), .int .i64 (a 2), .int .i64 (b 2), .int .i64 (a 3), .int .i64 (b 3)])] w fun e w' => e = .returned (.tuple #[.agg #[.int .i64 0, .int .i64 0, .int .i64 0, .int .i64 0, .int .i64 0, .int .i64 0, .int .i64 0, .int .i64 0], .int .i64 10]) ∧ Ext w w' := fun w => by have := cI w; rw [hw, if_neg (by decide)] at this; exact this
      cases hy : allV c d 4 with
      | true => exact strans_T a b c d z0 z0 (prR a b c d) (prI a b c d) n 10 0 W hn hv (Or.inr ⟨hw, rfl, rfl, rfl⟩) (Or.inl ⟨hy, rfl, rfl, rfl⟩) cI1 (fun w => product_ok a b c d w hv hy) ht
      | false => exact strans_T a b c d z0 z0 z0 z0 n 10 2 W hn hv (Or.inr ⟨hw, rfl, rfl, rfl⟩) (Or.inr ⟨hy, rfl, rfl, rfl⟩) cI1 (fun w => product_bad a b c d w (Or.inr ⟨hv, hy⟩)) ht
end Go.Proofs.YtbnmnkmjokcmfaaDoor
