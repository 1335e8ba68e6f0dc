import Derived.Test.YtbnmnkmjokcmfaaDoorS6
/- season: New, Use, Merge, Wave, Season. -/
namespace Go.Proofs.YtbnmnkmjokcmfaaDoor
open Go.RowKit
set_option maxHeartbeats 1000000 in
theorem cnew_bad (W : Int) (w : World) (h : W < 1 ∨ 4294967296 < W) : Calls Tryd.prog 22 #[.int .i64 W] w fun e w' => e = .returned (.tuple #[.pointer none, .int .i64 2]) ∧ Ext w w' := by
  by_cases h1 : W < 1
  · have d1 : decide (W < 1) = true := decide_eq_true h1
    clear h
    go_enter Tryd.func22, Tryd.ntmps22
    go_wp2
    go_ret2
    exact ⟨rfl, Below.refl _ _⟩
  · have d1 : decide (W < 1) = false := decide_eq_false h1
    have d2 : decide (4294967296 < W) = true := decide_eq_true (by omega)
    clear h
    go_enter Tryd.func22, Tryd.ntmps22
    go_wp2
    go_ret2
    exact ⟨rfl, Below.refl _ _⟩
def z0 (_ : Nat) : Int := 0
set_option maxHeartbeats 1000000 in
theorem cnew_ok (W : Nat) (w : World) (h1 : 1 ≤ W) (h2 : W ≤ 4294967296) : Calls Tryd.prog 22 #[.int .i64 W] w fun e w' => e = .returned (.tuple #[.pointer (some ⟨w.heap.size, 0, none⟩), .int .i64 0]) ∧ Ctr w' w.heap.size W z0 ∧ Ext w w' := by
  have d1 : decide ((W : Int) < 1) = false := decide_eq_false (by omega)
  have d2 : decide (4294967296 < (W : Int)) = false := decide_eq_false (by omega)
  have q : IntKind.u64.wrap (W : Int) = W := by rw [IntKind.wrap_u64]; omega
  have hfin : Box (Ctr (w.alloc (.cells #[.int .u64 W, .int .i64 0, .int .i64 0, .int .i64 0, .int .i64 0] 62)) w.heap.size W z0) := ⟨⟨newblk _ _, h1, h2, fun j _ => by unfold z0; omega⟩⟩
  go_enter Tryd.func22, Tryd.ntmps22
  go_wp2
  go_ret2
  exact ⟨rfl, hfin.out, Ext.alloc (Below.refl _ _) _⟩
def neverT : Nat := 18446744073709551615
/-- the error of Use -/
def useNo (m : Nat → Int) (W now : Nat) (n : Int) : Int := if n < 0 then 2 else if now = neverT then 3 else if 1048576 - m (now / W % 4) < n then 7 else 0
set_option maxHeartbeats 2000000 in
theorem use_no (w : World) (C W now : Nat) (n : Int) (m : Nat → Int) (h : Ctr w C W m) (hn : now < 18446744073709551616) (h0 : useNo m W now n ≠ 0) :
    Calls Tryd.prog 24 #[.pointer (some ⟨C, 0, none⟩), .int .u64 now, .int .i64 n] w fun e w' => e = .returned (.int .i64 (useNo m W now n)) ∧ Ext w w' := by
  have cn := Box.mk (cnone_ok w C W m h)
  have cq : Box (∀ w', Ext w w' → _) := ⟨fun w' hx => quarter_any w' C W now m (h.ext hx) hn⟩
  have hq4 : now / W % 4 < 4 := Nat.mod_lt _ (by decide)
  have hc : ∀ w', Ext w w' → _ := fun w' hx => ((h.ext hx).at (now / W % 4) hq4).1
  have hC := Box.mk hc
  have hlim := h.lim _ hq4
  have hx : Ext w w := Below.refl _ _
  unfold useNo at h0 ⊢
  by_cases h1 : n < 0
  · have d1 : decide (n < 0) = true := decide_eq_true h1
    rw [if_pos h1]
    clear h h0 hc
    go_enter Tryd.func24, Tryd.ntmps24
    go_wp2_with (first | (go_at_call 47; (with_reducible refine (cn.out).mono ?_); rintro e w' ⟨rfl, rfl⟩))
    go_ret
    exact ⟨rfl, hx⟩
  · have d1 : decide (n < 0) = false := decide_eq_false h1
    rw [if_neg h1] at h0 ⊢
    by_cases h2 : now = neverT
    · rw [if_pos h2]
      have d2 : ((now : Int) == 18446744073709551615) = true := by rw [h2]; rfl
      clear h h0 hc h2
      go_enter Tryd.func24, Tryd.ntmps24
      go_wp2_with (first | (go_at_call 47; (with_reducible refine (cn.out).mono ?_); rintro e w' ⟨rfl, rfl⟩))
      go_ret
      exact ⟨rfl, hx⟩
    · rw [if_neg h2] at h0 ⊢
      have d2 : ((now : Int) == 18446744073709551615) = false := by rw [beq_eq_false_iff_ne]; unfold neverT at h2; omega
      by_cases h3 : 1048576 - m (now / W % 4) < n
      · rw [if_pos h3]
        have q1 : IntKind.i64.wrap (1048576 - m (now / W % 4)) = 1048576 - m (now / W % 4) := by rw [IntKind.wrap_i64]; omega
        have d3 : decide (1048576 - m (now / W % 4) < n) = true := decide_eq_true h3
        clear h h0 hc h2 h3
        generalize now / W % 4 = q at *
        generalize m q = x at *
        have n1 : (0 : Int) ≤ (q : Int) := by omega
        have n2 : (q : Int) < 4 := by omega
        go_enter Tryd.func24, Tryd.ntmps24
        go_wp2_with (first
          | (go_at_call 47; (with_reducible refine (cn.out).mono ?_); rintro e w' ⟨rfl, rfl⟩)
          | (go_at_call 48; (with_reducible refine (cq.out _ hx).mono ?_); rintro e w1 ⟨rfl, hb⟩; have hx := Ext.trans' hx hb; have c0 := hC.out _ hx))
        go_ret
        exact ⟨rfl, hx⟩
      · rw [if_neg h3] at h0
        exact absurd rfl h0
set_option maxRecDepth 100000 in
set_option maxHeartbeats 2000000 in
theorem use_ok (w : World) (C W now : Nat) (n : Int) (m : Nat → Int) (h : Ctr w C W m) (hn : now < 18446744073709551616) (h0 : useNo m W now n = 0) :
    Calls Tryd.prog 24 #[.pointer (some ⟨C, 0, none⟩), .int .u64 now, .int .i64 n] w fun e w' => e = .returned (.int .i64 0) ∧ Ctr w' C W (upd m (now / W % 4) (m (now / W % 4) + n)) ∧ Tch C w w' := by
  have cn := Box.mk (cnone_ok w C W m h)
  have cq : Box (∀ w', Ext w w' → _) := ⟨fun w' hx => quarter_any w' C W now m (h.ext hx) hn⟩
  have hq4 : now / W % 4 < 4 := Nat.mod_lt _ (by decide)
  have hc : ∀ w', Ext w w' → _ := fun w' hx => ((h.ext hx).at (now / W % 4) hq4)
  have hC := Box.mk hc
  have hlim := h.lim _ hq4
  have hx : Ext w w := Below.refl _ _
  have H := Box.mk h
  unfold useNo at h0
  by_cases h1 : n < 0
  · rw [if_pos h1] at h0; cases h0
  rw [if_neg h1] at h0
  by_cases h2 : now = neverT
  · rw [if_pos h2] at h0; cases h0
  rw [if_neg h2] at h0
  by_cases h3 : 1048576 - m (now / W % 4) < n
  · rw [if_pos h3] at h0; cases h0
  have d1 : decide (n < 0) = false := decide_eq_false h1
  have d2 : ((now : Int) == 18446744073709551615) = false := by rw [beq_eq_false_iff_ne]; unfold neverT at h2; omega
  have q1 : IntKind.i64.wrap (1048576 - m (now / W % 4)) = 1048576 - m (now / W % 4) := by rw [IntKind.wrap_i64]; omega
  have q2 : IntKind.i64.wrap (m (now / W % 4) + n) = m (now / W % 4) + n := by rw [IntKind.wrap_i64]; omega
  have d3 : decide (1048576 - m (now / W % 4) < n) = false := decide_eq_false h3
  have hset := Box.mk (ctC_set W m (now / W % 4) (m (now / W % 4) + n) hq4)
  have hl2 : Box (∀ j, j < 4 → 0 ≤ upd m (now / W % 4) (m (now / W % 4) + n) j ∧ upd m (now / W % 4) (m (now / W % 4) + n) j ≤ 1048576) := ⟨fun j hj => by
    unfold upd
    split
    · omega
    · exact h.lim j hj⟩
  clear h h0 hc h2
  generalize now / W % 4 = q at *
  generalize hmq : m q = x at *
  have n1 : (0 : Int) ≤ (q : Int) := by omega
  have n2 : (q : Int) < 4 := by omega
  go_enter Tryd.func24, Tryd.ntmps24
  go_wp2_with (first
    | (go_at_call 47; (with_reducible refine (cn.out).mono ?_); rintro e w' ⟨rfl, rfl⟩)
    | (go_at_call 48; (with_reducible refine (cq.out _ hx).mono ?_); rintro e w1 ⟨rfl, hb⟩; have hx := Ext.trans' hx hb; obtain ⟨c0, f0⟩ := hC.out _ hx; have hH := Box.mk (H.out.ext hx)))
  go_region
  go_wp2
  go_ret
  refine ⟨rfl, ⟨?_, H.out.w1, H.out.w2, hl2.out⟩, (Tch.of_ext hx).trans ((Tch.put w1 (1 + q) _).trans (Tch.of_ext (Ext.drew1 (Below.refl _ _))))⟩
  refine Ext.blk (Ext.drew1 (Below.refl _ _)) ?_
  rw [heap_setCell_same _ C (1 + q) _ _ _ hH.out.hd, hset.out]
set_option maxRecDepth 100000 in
set_option maxHeartbeats 4000000 in
theorem wave_any (w : World) (C W : Nat) (m : Nat → Int) (h : Ctr w C W m) : Calls Tryd.prog 30 #[.pointer (some ⟨C, 0, none⟩)] w fun e w' => e = .returned (.tuple #[(.agg #[.int .i64 (tR m z0 0), .int .i64 (tI m z0 0), .int .i64 (tR m z0 1), .int .i64 (tI m z0 1), .int .i64 (tR m z0 2), .int .i64 (tI m z0 2), .int .i64 (tR m z0 3), .int .i64 (tI m z0 3)]), .int .i64 0]) ∧ Ext w w' := by
  have hx : Ext w (w.alloc (.cells #[.int .i64 0, .int .i64 0, .int .i64 0, .int .i64 0, .int .i64 0, .int .i64 0, .int .i64 0, .int .i64 0] 29)) := Ext.alloc (Below.refl _ _) _
  have hB := newblk w (.cells #[.int .i64 0, .int .i64 0, .int .i64 0, .int .i64 0, .int .i64 0, .int .i64 0, .int .i64 0, .int .i64 0] 29)
  have cn := Box.mk (cnone_ok (w.alloc (.cells #[.int .i64 0, .int .i64 0, .int .i64 0, .int .i64 0, .int .i64 0, .int .i64 0, .int .i64 0, .int .i64 0] 29)) C W m (h.ext hx))
  have hv : allV m z0 4 = true := allV_iff.2 fun j hj => gB_iff.2 (by have := h.lim j hj; unfold z0; omega)
  have cT : Box (∀ w', Calls Tryd.prog 13 #[.agg #[.int .i64 (m 0), .int .i64 0, .int .i64 (m 1), .int .i64 0, .int .i64 (m 2), .int .i64 0, .int .i64 (m 3), .int .i64 0]] w' fun e w'' => e = .returned (.tuple #[(.agg #[.int .i64 (tR m z0 0), .int .i64 (tI m z0 0), .int .i64 (tR m z0 1), .int .i64 (tI m z0 1), .int .i64 (tR m z0 2), .int .i64 (tI m z0 2), .int .i64 (tR m z0 3), .int .i64 (tI m z0 3)]), .int .i64 0]) ∧ Ext w' w'') := ⟨fun w' => transform_ok m z0 w' hv⟩
  have H := Box.mk h
  have hC := blk_lt h.hd
  have hx2 : Ext w ((w.alloc (.cells #[.int .i64 0, .int .i64 0, .int .i64 0, .int .i64 0, .int .i64 0, .int .i64 0, .int .i64 0, .int .i64 0] 29)).alloc (.cells #[.int .i64 0, .int .i64 0, .int .i64 0, .int .i64 0, .int .i64 0, .int .i64 0, .int .i64 0, .int .i64 0] 29)) := Ext.alloc hx _
  obtain ⟨⟨c0, c1, c2, c3, c4⟩, _⟩ := (h.ext hx2).cells
  have i0 : ∀ w : World, (Instr.index 50 (.agg #[.int .i64 (m 0), .int .i64 (m 1), .int .i64 (m 2), .int .i64 (m 3)]) (.int .i64 0)).run Tryd.prog w = .ok (.int .i64 (m 0)) w := fun w => by kernel_rfl
  have i1 : ∀ w : World, (Instr.index 50 (.agg #[.int .i64 (m 0), .int .i64 (m 1), .int .i64 (m 2), .int .i64 (m 3)]) (.int .i64 1)).run Tryd.prog w = .ok (.int .i64 (m 1)) w := fun w => by kernel_rfl
  have i2 : ∀ w : World, (Instr.index 50 (.agg #[.int .i64 (m 0), .int .i64 (m 1), .int .i64 (m 2), .int .i64 (m 3)]) (.int .i64 2)).run Tryd.prog w = .ok (.int .i64 (m 2)) w := fun w => by kernel_rfl
  have i3 : ∀ w : World, (Instr.index 50 (.agg #[.int .i64 (m 0), .int .i64 (m 1), .int .i64 (m 2), .int .i64 (m 3)]) (.int .i64 3)).run Tryd.prog w = .ok (.int .i64 (m 3)) w := fun w => by kernel_rfl
  clear h hv
  generalize tR m z0 = u at *
  generalize tI m z0 = v at *
  generalize m 0 = x0 at *
  generalize m 1 = x1 at *
  generalize m 2 = x2 at *
  generalize m 3 = x3 at *
  go_enter Tryd.func30, Tryd.ntmps30
  go_wp2_with (first | (go_at_call 47; (with_reducible refine (cn.out).mono ?_); rintro e w' ⟨rfl, rfl⟩))
  refine wp_loop_rounds 5 ?_
  repeat any_goals (rw [rounds_succ]; go_wp2_with (first
    | (go_at_call 13; (with_reducible refine (cT.out _).mono ?_); rintro e w1 ⟨rfl, hb⟩; have hBB := Ext.blk hb (Ext.blk (Ext.alloc (Below.refl _ _) _) hB); have hxe := Ext.trans' (Ext.alloc hx _) hb; obtain ⟨⟨o0, o1, o2, o3, o4, o5, o6, o7⟩, y0, y1, y2, y3, y4, y5, y6, y7⟩ := cx8 hBB)))
  refine bodyPost_ret (v := .tuple #[(.agg #[.int .i64 (u 0), .int .i64 (v 0), .int .i64 (u 1), .int .i64 (v 1), .int .i64 (u 2), .int .i64 (v 2), .int .i64 (u 3), .int .i64 (v 3)]), .int .i64 0]) ?_ rfl ⟨rfl, Ext.st8 hxe (Nat.le_refl _) _ _ _ _ _ _ _ _⟩
  simp [results, Tryd.results30, go_sem, o0, o1, o2, o3, o4, o5, o6, o7]
set_option maxHeartbeats 1000000 in
theorem square_any (x y : Int) (w : World) (hx : Lim (2 ^ 25) x) (hy : Lim (2 ^ 25) y) : Calls Tryd.prog 50 #[.agg #[.int .i64 x, .int .i64 y]] w fun e w' => e = .returned (.int .i64 (x * x + y * y)) ∧ Ext w w' := by
  have h1 : Lim (2 ^ 50) (x * x) := by
    unfold Lim at *
    have := pb (2 ^ 25) (2 ^ 25) (a := x) (c := x) (by simpa using hx) (by simpa using hx)
    simpa using this
  have h2 : Lim (2 ^ 50) (y * y) := by
    unfold Lim at *
    have := pb (2 ^ 25) (2 ^ 25) (a := y) (c := y) (by simpa using hy) (by simpa using hy)
    simpa using this
  unfold Lim at h1 h2
  have q1 : IntKind.i64.wrap (x * x) = x * x := by rw [IntKind.wrap_i64]; omega
  have q2 : IntKind.i64.wrap (y * y) = y * y := by rw [IntKind.wrap_i64]; omega
  have q3 : IntKind.i64.wrap (x * x + y * y) = x * x + y * y := by rw [IntKind.wrap_i64]; omega
  clear hx hy
  go_enter Tryd.func50, Tryd.ntmps50
  go_wp2
  go_ret
  exact ⟨ret_int (by first | rfl | (unfold wrap64; omega)), Ext.alloc (Below.refl _ _) _⟩
def sq (u v : Nat → Int) (k : Nat) : Int := u k * u k + v k * v k
/-- the season -/
def kindS (u v : Nat → Int) : Int := if sq u v 1 = 0 ∧ sq u v 2 = 0 then 0 else if sq u v 2 ≤ 2 * sq u v 1 then 1 else 2
theorem tz_lim {m : Nat → Int} (h : ∀ j, j < 4 → 0 ≤ m j ∧ m j ≤ 1048576) (k : Nat) : Lim (2 ^ 23) (tR m z0 k) ∧ Lim (2 ^ 23) (tI m z0 k) := by
  have h0 := h 0 (by omega); have h1 := h 1 (by omega); have h2 := h 2 (by omega); have h3 := h 3 (by omega)
  unfold tR tI
  simp only [sR, sI, z0]
  have k0 := cr_lim (-1 * (0 : Nat) * (k : Int)); have k1 := cr_lim (-1 * (1 : Nat) * (k : Int)); have k2 := cr_lim (-1 * (2 : Nat) * (k : Int)); have k3 := cr_lim (-1 * (3 : Nat) * (k : Int))
  generalize cr (-1 * (0 : Nat) * (k : Int)) = a0 at *
  generalize cr (-1 * (1 : Nat) * (k : Int)) = a1 at *
  generalize cr (-1 * (2 : Nat) * (k : Int)) = a2 at *
  generalize cr (-1 * (3 : Nat) * (k : Int)) = a3 at *
  generalize ci (-1 * (0 : Nat) * (k : Int)) = b0 at *
  generalize ci (-1 * (1 : Nat) * (k : Int)) = b1 at *
  generalize ci (-1 * (2 : Nat) * (k : Int)) = b2 at *
  generalize ci (-1 * (3 : Nat) * (k : Int)) = b3 at *
  have g : ∀ (x c : Int), (0 ≤ x ∧ x ≤ 1048576) → (c = 0 ∨ c = 1 ∨ c = -1) → -1048576 ≤ x * c ∧ x * c ≤ 1048576 := by
    intro x c hx hc
    rcases hc with rfl | rfl | rfl <;> omega
  have g0 := g _ a0 h0 k0.1; have g1 := g _ a1 h1 k1.1; have g2 := g _ a2 h2 k2.1; have g3 := g _ a3 h3 k3.1
  have e0 := g _ b0 h0 k0.2; have e1 := g _ b1 h1 k1.2; have e2 := g _ b2 h2 k2.2; have e3 := g _ b3 h3 k3.2
  unfold Lim
  simp only [Int.zero_mul]
  constructor <;> constructor <;> omega
theorem sq_lim {u v : Nat → Int} {k : Nat} (h : Lim (2 ^ 23) (u k) ∧ Lim (2 ^ 23) (v k)) : 0 ≤ sq u v k ∧ sq u v k ≤ 2 ^ 47 := by
  unfold sq Lim at *
  have h1 := pb (2 ^ 23) (2 ^ 23) (a := u k) (c := u k) (by simpa using h.1) (by simpa using h.1)
  have h2 := pb (2 ^ 23) (2 ^ 23) (a := v k) (c := v k) (by simpa using h.2) (by simpa using h.2)
  have h3 : 0 ≤ u k * u k := by rcases Int.le_total 0 (u k) with h | h; exact Int.mul_nonneg h h; exact Int.mul_nonneg_of_nonpos_of_nonpos h h
  have h4 : 0 ≤ v k * v k := by rcases Int.le_total 0 (v k) with h | h; exact Int.mul_nonneg h h; exact Int.mul_nonneg_of_nonpos_of_nonpos h h
  simp at h1 h2
  omega
set_option maxRecDepth 100000 in
set_option maxHeartbeats 4000000 in
theorem season_any (w : World) (C W : Nat) (m : Nat → Int) (h : Ctr w C W m) : Calls Tryd.prog 33 #[.pointer (some ⟨C, 0, none⟩)] w fun e w' => e = .returned (.int .i64 (kindS (tR m z0) (tI m z0))) ∧ Ext w w' := by
  have cW := Box.mk (wave_any w C W m h)
  have hl1 := tz_lim h.lim 1
  have hl2 := tz_lim h.lim 2
  have c1 : Box _ := ⟨fun w => square_any (tR m z0 1) (tI m z0 1) w (by have := hl1.1; unfold Lim at *; omega) (by have := hl1.2; unfold Lim at *; omega)⟩
  have c2 : Box _ := ⟨fun w => square_any (tR m z0 2) (tI m z0 2) w (by have := hl2.1; unfold Lim at *; omega) (by have := hl2.2; unfold Lim at *; omega)⟩
  have s1 := sq_lim hl1
  have s2 := sq_lim hl2
  have hk : kindS (tR m z0) (tI m z0) = if sq (tR m z0) (tI m z0) 1 = 0 ∧ sq (tR m z0) (tI m z0) 2 = 0 then 0 else if sq (tR m z0) (tI m z0) 2 ≤ 2 * sq (tR m z0) (tI m z0) 1 then 1 else 2 := rfl
  rw [hk]
  unfold sq at *
  clear hk hl1 hl2 h
  generalize tR m z0 = u at *
  generalize tI m z0 = v at *
  generalize u 1 * u 1 + v 1 * v 1 = f1 at *
  generalize u 2 * u 2 + v 2 * v 2 = f2 at *
  have q1 : IntKind.i64.wrap (2 * f1) = 2 * f1 := by rw [IntKind.wrap_i64]; omega
  have hfin : ∃ z : Int, z = (if f1 = 0 ∧ f2 = 0 then 0 else if f2 ≤ 2 * f1 then 1 else 2) := ⟨_, rfl⟩
  obtain ⟨z, hz⟩ := hfin
  rw [← hz]
  have HZ := Box.mk hz
  have key : (f1 == 0) = true ∧ (f2 == 0) = true ∧ Box (z = 0) ∨ (f1 == 0) = true ∧ (f2 == 0) = false ∧ decide (f2 ≤ 2 * f1) = true ∧ Box (z = 1) ∨ (f1 == 0) = true ∧ (f2 == 0) = false ∧ decide (f2 ≤ 2 * f1) = false ∧ Box (z = 2) ∨ (f1 == 0) = false ∧ decide (f2 ≤ 2 * f1) = true ∧ Box (z = 1) ∨ (f1 == 0) = false ∧ decide (f2 ≤ 2 * f1) = false ∧ Box (z = 2) := by
    by_cases h1 : f1 = 0
    · by_cases h2 : f2 = 0
      · exact Or.inl ⟨by rw [h1]; rfl, by rw [h2]; rfl, ⟨by rw [hz, if_pos ⟨h1, h2⟩]⟩⟩
      · by_cases h3 : f2 ≤ 2 * f1
        · exact Or.inr (Or.inl ⟨by rw [h1]; rfl, by rw [beq_eq_false_iff_ne]; exact h2, decide_eq_true h3, ⟨by rw [hz, if_neg (fun h => h2 h.2), if_pos h3]⟩⟩)
        · exact Or.inr (Or.inr (Or.inl ⟨by rw [h1]; rfl, by rw [beq_eq_false_iff_ne]; exact h2, decide_eq_false h3, ⟨by rw [hz, if_neg (fun h => h2 h.2), if_neg h3]⟩⟩))
    · by_cases h3 : f2 ≤ 2 * f1
      · exact Or.inr (Or.inr (Or.inr (Or.inl ⟨by rw [beq_eq_false_iff_ne]; exact h1, decide_eq_true h3, ⟨by rw [hz, if_neg (fun h => h1 h.1), if_pos h3]⟩⟩)))
      · exact Or.inr (Or.inr (Or.inr (Or.inr ⟨by rw [beq_eq_false_iff_ne]; exact h1, decide_eq_false h3, ⟨by rw [hz, if_neg (fun h => h1 h.1), if_neg h3]⟩⟩)))
  clear hz HZ s1 s2
  rcases key with ⟨e1, e2, e4⟩ | ⟨e1, e2, e3, e4⟩ | ⟨e1, e2, e3, e4⟩ | ⟨e1, e3, e4⟩ | ⟨e1, e3, e4⟩
  all_goals
    go_enter Tryd.func33, Tryd.ntmps33
    go_wp2_with (first
      | (go_at_call 30; (with_reducible refine cW.out.mono ?_); rintro e w1 ⟨rfl, hb⟩; have hxe := Ext.alloc hb (.cells #[.int .i64 (u 0), .int .i64 (v 0), .int .i64 (u 1), .int .i64 (v 1), .int .i64 (u 2), .int .i64 (v 2), .int .i64 (u 3), .int .i64 (v 3)] 29); have hD := newblk w1 (.cells #[.int .i64 (u 0), .int .i64 (v 0), .int .i64 (u 1), .int .i64 (v 1), .int .i64 (u 2), .int .i64 (v 2), .int .i64 (u 3), .int .i64 (v 3)] 29); obtain ⟨⟨o0, o1, o2, o3, o4, o5, o6, o7⟩, -⟩ := cx8 hD))
    have hxe := Ext.drew1 hxe
    go_region_held3 (fun w' => w'.cell? ⟨w1.heap.size, 2, none⟩ = some (.int .i64 (u 1)) ∧ w'.cell? ⟨w1.heap.size, 3, none⟩ = some (.int .i64 (v 1)) ∧ w'.cell? ⟨w1.heap.size, 4, none⟩ = some (.int .i64 (u 2)) ∧ w'.cell? ⟨w1.heap.size, 5, none⟩ = some (.int .i64 (v 2)))
      (exact ⟨o2, o3, o4, o5⟩)
      (first
        | (go_at_call 50; (with_reducible refine (c1.out _).mono ?_); rintro e w2 ⟨rfl, hb2⟩; have hxe := Ext.trans' hxe hb2; have o2 := Ext.cell hb2 o2; have o3 := Ext.cell hb2 o3; have o4 := Ext.cell hb2 o4; have o5 := Ext.cell hb2 o5)
        | (go_at_call 50; (with_reducible refine (c2.out _).mono ?_); rintro e w2 ⟨rfl, hb2⟩; have hxe := Ext.trans' hxe hb2; have o2 := Ext.cell hb2 o2; have o3 := Ext.cell hb2 o3; have o4 := Ext.cell hb2 o4; have o5 := Ext.cell hb2 o5))
    go_wp2
    go_ret
    exact ⟨ret_int e4.out.symm, hxe⟩
end Go.Proofs.YtbnmnkmjokcmfaaDoor
