import Derived.Test.YtboecabipkkcgaaDoorE18
import Derived.Deep.RegionHeld3
import Derived.Maps.AppendAt
/- The reference's Copy; the law's walk: EntryOrders. -/
namespace Go.Proofs.YtboecabipkkcgaaDoor
open Go.RowKit

theorem copy_app (w : World) (a : Option Addr) (c : Nat) (l : List UInt8) (h : By w (.slice a l.length c) l) (hl : l.length ≤ 100000) :
    ∃ (a1 : Option Addr) (c1 : Nat) (w' : World), (Builtin.append_ #[25, 25] 25 #[.slice none 0 0, .slice a l.length c]).run Tryd.prog w = .ok (.slice a1 l.length c1) w' ∧ OwnB w.heap.size w' (.slice a1 l.length c1) l ∧ Ext w w' := by
  obtain ⟨i0, hi, hz0, hz1, hz2⟩ := info_parts infoByte
  obtain ⟨a', c', he, _, _, _, hb⟩ := h
  simp only [Value.slice.injEq] at he
  obtain ⟨rfl, _, rfl⟩ := he
  rcases Nat.eq_zero_or_pos l.length with h0 | h0
  · have : l = [] := List.eq_nil_of_length_eq_zero h0
    subst this
    cases a with
    | none => exact ⟨none, 0, w, by simp [Builtin.append_, run_underlying Tryd.underlying25, sizeOf, typeInfo, hi, Builtin.lenOf, Builtin.firstCells], World.ownsRow_nil _ _ _ _, Below.refl _ _⟩
    | some ad =>
      obtain ⟨v', w', hrun, h2, h3, _, _⟩ := run_append_own_at (P := Tryd.prog) w w.heap.size 25 25 5 i0 (.int .u8 0) 1 1 Tryd.underlying25 hi hz0 hz1 hz2 rfl (by decide) (.slice none 0 0) 0 [] (World.ownsRow_nil _ _ _ _) ad 0 c [] rfl (fun j u hu => by simp at hu) (by simp) (by decide) (by decide) (Nat.le_refl _)
      have ho : OwnB w.heap.size w' v' [] := h2
      obtain ⟨a1, c1, rfl⟩ := ho.shape
      exact ⟨a1, c1, w', hrun, ho, Below.grown (Below.refl _ _) h3 (Nat.le_refl _) (fun j hj => by cases hj)⟩
  · obtain ⟨b, o, rfl, hcell⟩ := hb h0
    obtain ⟨v', w', hrun, h2, h3, _, _⟩ := run_append_own_at (P := Tryd.prog) w w.heap.size 25 25 5 i0 (.int .u8 0) 1 1 Tryd.underlying25 hi hz0 hz1 hz2 rfl (by decide) (.slice none 0 0) 0 [] (World.ownsRow_nil _ _ _ _) ⟨b, o, none⟩ l.length c ((nums l).map (Value.int .u8)) (by simp [nums]) (fun j u hu => by
        have hj : j < l.length := by have := (List.getElem?_eq_some_iff.1 hu).1; simpa [nums] using this
        rw [Go.WideShapes.add_plain, hcell j hj, nums_getD l j hj, ← hu]
        simp [nums, hj]) (by intro u hu; simp only [List.mem_map] at hu; obtain ⟨z, _, rfl⟩ := hu; rfl) (by unfold maxLen; omega) (by omega) (Nat.le_refl _)
    have ho : OwnB w.heap.size w' v' l := by
      have h2' := h2
      rw [Nat.zero_add] at h2'
      exact h2'
    obtain ⟨a1, c1, rfl⟩ := ho.shape
    exact ⟨a1, c1, w', hrun, ho, Below.grown (Below.refl _ _) h3 (Nat.le_refl _) (fun j hj => by cases hj)⟩

theorem Ext.drew1 {w w1 : World} (h : Ext w w1) : Ext w w1.drew := Ext.drewN h 1
theorem step_append_run {P : Program} {w : World} {ops : Array Oper} {o : Oper} {a : Act} {K : Act → World → Prop} {Q : Exit → Act → World → Prop} {E : Prop} (hgd : o.guard = none) (s x : Operand) (t : TypeId)
    (ho : o.op = .call { callee := .builtin .append, args := #[s, x], argTypes := #[t, t] }) (v u v' : Value) (w' : World) (hs : a.eval s = v) (hx : a.eval x = u)
    (hrun : (Builtin.append_ #[t, t] o.type #[v, u]).run P w = .ok v' w') (h : K (a.put o.dst v') w') :
    if Region.wanted o (yielded ops a.tmps) = true then Oper.wp P o a w K Q else E := by
  have hw : Region.wanted o (yielded ops a.tmps) = true := by simp [Region.wanted, hgd]
  rw [if_pos hw]
  unfold Oper.wp execOp
  simp only [ho, resolve, invoke, builtin, Sem.run_bind, Sem.run_pure, Result.andThen_ok, List.map_toArray, List.map_cons, List.map_nil, hs, hx, hrun]
  exact h

set_option maxHeartbeats 2000000 in
theorem refCopy_any (k : ByteArray) (v : Value) (d b : Nat) (l : List UInt8) (w : World) (h : By w v l) (hl : l.length ≤ 100000) :
    Calls Tryd.prog 28 #[.agg #[.string k, v, .int .u64 d, .int .u64 b]] w fun e w' => ∃ v', e = .returned (.agg #[.string k, v', .int .u64 d, .int .u64 b]) ∧ OwnB w.heap.size w' v' l ∧ Ext w w' := by
  obtain ⟨a, c, rfl, hn⟩ := h.size
  have hx0 : Ext w ((w.alloc (.cells #[.string k, .slice a l.length c, .int .u64 d, .int .u64 b] 33)).alloc (.cells zeroC 33)) := Ext.alloc (Ext.alloc (Below.refl _ _) _) _
  have hv := h.ext hx0
  have hB : ((w.alloc (.cells #[.string k, .slice a l.length c, .int .u64 d, .int .u64 b] 33)).alloc (.cells zeroC 33)).heap[w.heap.size]? = some (.cells #[.string k, .slice a l.length c, .int .u64 d, .int .u64 b] 33 (0, 0)) := Ext.blk (Ext.alloc (Below.refl _ _) _) (newblk w _)
  have hR := newblk2 w (.cells #[.string k, .slice a l.length c, .int .u64 d, .int .u64 b] 33) (.cells zeroC 33)
  clear h
  go_enter Tryd.func28, Tryd.ntmps28
  go_wp2
  generalize (w.alloc (.cells #[.string k, .slice a l.length c, .int .u64 d, .int .u64 b] 33)).alloc (.cells zeroC 33) = W1 at *
  have hlt : w.heap.size + 1 < W1.heap.size := blk_lt hR
  obtain ⟨a1, c1, W2, happ, ho, hx2⟩ := copy_app W1.drew a c l (hv.ext (Ext.drewN (Below.refl _ _) 1)) hl
  have hx1 : Ext W1 W2 := Ext.trans' (Ext.drewN (Below.refl _ _) 1) hx2
  have ho2 := ho.mono (C := w.heap.size + 2) (by show _ ≤ W1.heap.size; omega)
  obtain ⟨m0, m1, m2, m3, _⟩ := blk4 hB
  obtain ⟨n0, n1, n2, n3, g0, g1, g2, g3⟩ := blk4 (Ext.blk hx1 hR)
  have hB2 := Ext.blk hx1 hB
  obtain ⟨p0, p1, p2, p3, _⟩ := blk4 hB2
  have hX := Ext.trans' hx0 hx1
  have HO := Box.mk ho2
  have HX := Box.mk hX
  clear hv hx0 hB hR hx2 hx1 ho ho2 hB2 hX
  generalize hBw : w.heap.size = B at *
  go_region_held3 (fun w' => w'.cell? ⟨B, 0, none⟩ = some (.string k) ∧ w'.cell? ⟨B, 1, none⟩ = some (.slice a l.length c) ∧ w'.cell? ⟨B, 2, none⟩ = some (.int .u64 d) ∧ w'.cell? ⟨B, 3, none⟩ = some (.int .u64 b))
    (first
      | (exact ⟨m0, m1, m2, m3⟩)
      | (exact ⟨p0, p1, p2, p3⟩)
      | (simp [go_sem, p0, p1, p2, p3]))
    ((refine step_append_run rfl _ _ _ rfl _ _ _ _ rfl rfl happ ?_))
  all_goals
    go_wp2
    subst hBw
    refine bodyPost_ret (v := .agg #[.string k, .slice a1 l.length c1, .int .u64 d, .int .u64 b]) ?_ rfl ⟨_, rfl, (HO.out.st4 (B := w.heap.size + 1) (by omega) _ _ _ _).mono (by omega), Ext.st4 HX.out (B := w.heap.size + 1) (by omega) _ _ _ _⟩
    simp [results, Tryd.results28, go_sem, n0, n1, n2, n3]

set_option maxRecDepth 100000 in
set_option maxHeartbeats 4000000 in
theorem orders_big (k1 : ByteArray) (a1 : Option Addr) (m1 c1 d1 b1 : Nat) (k2 : ByteArray) (a2 : Option Addr) (m2 c2 d2 b2 : Nat) (W : World) (hk1 : k1.size ≤ 9223372036854775807) (hm1 : m1 ≤ 9223372036854775807) (hk2 : k2.size ≤ 9223372036854775807) (hm2 : m2 ≤ 9223372036854775807) (ht : Env W) (hn : (sm k1.size m1 && sm k2.size m2) = false) :
    Calls Tryd.prog 8 #[.agg #[.string k1, .slice a1 m1 c1, .int .u64 d1, .int .u64 b1], .agg #[.string k2, .slice a2 m2 c2, .int .u64 d2, .int .u64 b2]] W fun e W' => e = .returned (.bool true) ∧ Below W.heap.size W W' := by
  have ck : Box (∀ w, Ext W w → Calls Tryd.prog 9 #[] w fun e w' => e = .returned (.bool true) ∧ Ext w w') := ⟨fun w h => known_any w (ht.ext h)⟩
  have hx : Ext W (((W.alloc (.cells #[.string k1, .slice a1 m1 c1, .int .u64 d1, .int .u64 b1] 33)).alloc (.cells #[.string k2, .slice a2 m2 c2, .int .u64 d2, .int .u64 b2] 33)).alloc (.cells #[.string k1, .slice a1 m1 c1, .int .u64 d1, .int .u64 b1, .string k2, .slice a2 m2 c2, .int .u64 d2, .int .u64 b2] 33)) := Ext.alloc (Ext.alloc (Ext.alloc (Below.refl _ _) _) _) _
  have hB : (((W.alloc (.cells #[.string k1, .slice a1 m1 c1, .int .u64 d1, .int .u64 b1] 33)).alloc (.cells #[.string k2, .slice a2 m2 c2, .int .u64 d2, .int .u64 b2] 33)).alloc (.cells #[.string k1, .slice a1 m1 c1, .int .u64 d1, .int .u64 b1, .string k2, .slice a2 m2 c2, .int .u64 d2, .int .u64 b2] 33)).heap[W.heap.size]? = some (.cells #[.string k1, .slice a1 m1 c1, .int .u64 d1, .int .u64 b1] 33 (0, 0)) := Ext.blk (Ext.alloc (Ext.alloc (Below.refl _ _) _) _) (newblk W _)
  have hC : (((W.alloc (.cells #[.string k1, .slice a1 m1 c1, .int .u64 d1, .int .u64 b1] 33)).alloc (.cells #[.string k2, .slice a2 m2 c2, .int .u64 d2, .int .u64 b2] 33)).alloc (.cells #[.string k1, .slice a1 m1 c1, .int .u64 d1, .int .u64 b1, .string k2, .slice a2 m2 c2, .int .u64 d2, .int .u64 b2] 33)).heap[W.heap.size + 1]? = some (.cells #[.string k2, .slice a2 m2 c2, .int .u64 d2, .int .u64 b2] 33 (0, 0)) := Ext.blk (Ext.alloc (Below.refl _ _) _) (newblk2 W _ _)
  have cf : Box (Calls Tryd.prog 14 #[.slice (some ⟨W.heap.size + 1 + 1, 0, none⟩) 2 2] (((W.alloc (.cells #[.string k1, .slice a1 m1 c1, .int .u64 d1, .int .u64 b1] 33)).alloc (.cells #[.string k2, .slice a2 m2 c2, .int .u64 d2, .int .u64 b2] 33)).alloc (.cells #[.string k1, .slice a1 m1 c1, .int .u64 d1, .int .u64 b1, .string k2, .slice a2 m2 c2, .int .u64 d2, .int .u64 b2] 33)) fun e w' => e = .returned (.bool (sm k1.size m1 && sm k2.size m2)) ∧ Ext (((W.alloc (.cells #[.string k1, .slice a1 m1 c1, .int .u64 d1, .int .u64 b1] 33)).alloc (.cells #[.string k2, .slice a2 m2 c2, .int .u64 d2, .int .u64 b2] 33)).alloc (.cells #[.string k1, .slice a1 m1 c1, .int .u64 d1, .int .u64 b1, .string k2, .slice a2 m2 c2, .int .u64 d2, .int .u64 b2] 33)) w') := ⟨few2_any k1 a1 m1 c1 d1 b1 k2 a2 m2 c2 d2 b2 _ (W.heap.size + 1 + 1) hk1 hm1 hk2 hm2 (newblk4 W _ _ _)⟩
  rw [hn] at cf
  clear ht hn hk1 hm1 hk2 hm2
  go_enter Tryd.func8, Tryd.ntmps8
  go_wp2_with (first
    | (go_at_call 14; (with_reducible refine (cf.out).mono ?_); rintro e w1 ⟨rfl, hb⟩; (try clear u0 u1 u2 u3 n0 n1 n2 n3); have hx : Ext W w1 := (by first | exact Ext.trans' hx hb | exact Ext.trans' (Ext.drewN hx 1) hb); have hB := Ext.blk hb hB; have hC := Ext.blk hb hC; obtain ⟨u0, u1, u2, u3, _⟩ := blk4 hB; obtain ⟨n0, n1, n2, n3, _⟩ := blk4 hC; (try (have hv9 := hv9.ext hb)))
    | (go_at_call 9; (with_reducible refine (ck.out _ hx).mono ?_); rintro e w1 ⟨rfl, hb⟩; (try clear u0 u1 u2 u3 n0 n1 n2 n3); have hx : Ext W w1 := (by first | exact Ext.trans' hx hb | exact Ext.trans' (Ext.drewN hx 1) hb); have hB := Ext.blk hb hB; have hC := Ext.blk hb hC; obtain ⟨u0, u1, u2, u3, _⟩ := blk4 hB; obtain ⟨n0, n1, n2, n3, _⟩ := blk4 hC; (try (have hv9 := hv9.ext hb))))
  go_ret
  exact ⟨rfl, hx⟩

set_option maxRecDepth 100000 in
set_option maxHeartbeats 16000000 in
theorem orders_small (k1 : ByteArray) (a1 : Option Addr) (l1 : List UInt8) (c1 d1 b1 : Nat) (k2 : ByteArray) (a2 : Option Addr) (l2 : List UInt8) (c2 d2 b2 : Nat) (W : World) (hk1 : k1.size ≤ 9223372036854775807) (hm1 : l1.length ≤ 9223372036854775807) (hk2 : k2.size ≤ 9223372036854775807) (hm2 : l2.length ≤ 9223372036854775807) (ht : Env W) (hl1 : By W (.slice a1 l1.length c1) l1) (hl2 : By W (.slice a2 l2.length c2) l2) (hn : (sm k1.size l1.length && sm k2.size l2.length) = true) (hs1 : l1.length ≤ 600) :
    Calls Tryd.prog 8 #[.agg #[.string k1, .slice a1 l1.length c1, .int .u64 d1, .int .u64 b1], .agg #[.string k2, .slice a2 l2.length c2, .int .u64 d2, .int .u64 b2]] W fun e W' => e = .returned (.bool true) ∧ Below W.heap.size W W' := by
  have ck : Box (∀ w, Ext W w → Calls Tryd.prog 9 #[] w fun e w' => e = .returned (.bool true) ∧ Ext w w') := ⟨fun w h => known_any w (ht.ext h)⟩
  have hx : Ext W (((W.alloc (.cells #[.string k1, .slice a1 l1.length c1, .int .u64 d1, .int .u64 b1] 33)).alloc (.cells #[.string k2, .slice a2 l2.length c2, .int .u64 d2, .int .u64 b2] 33)).alloc (.cells #[.string k1, .slice a1 l1.length c1, .int .u64 d1, .int .u64 b1, .string k2, .slice a2 l2.length c2, .int .u64 d2, .int .u64 b2] 33)) := Ext.alloc (Ext.alloc (Ext.alloc (Below.refl _ _) _) _) _
  have hB : (((W.alloc (.cells #[.string k1, .slice a1 l1.length c1, .int .u64 d1, .int .u64 b1] 33)).alloc (.cells #[.string k2, .slice a2 l2.length c2, .int .u64 d2, .int .u64 b2] 33)).alloc (.cells #[.string k1, .slice a1 l1.length c1, .int .u64 d1, .int .u64 b1, .string k2, .slice a2 l2.length c2, .int .u64 d2, .int .u64 b2] 33)).heap[W.heap.size]? = some (.cells #[.string k1, .slice a1 l1.length c1, .int .u64 d1, .int .u64 b1] 33 (0, 0)) := Ext.blk (Ext.alloc (Ext.alloc (Below.refl _ _) _) _) (newblk W _)
  have hC : (((W.alloc (.cells #[.string k1, .slice a1 l1.length c1, .int .u64 d1, .int .u64 b1] 33)).alloc (.cells #[.string k2, .slice a2 l2.length c2, .int .u64 d2, .int .u64 b2] 33)).alloc (.cells #[.string k1, .slice a1 l1.length c1, .int .u64 d1, .int .u64 b1, .string k2, .slice a2 l2.length c2, .int .u64 d2, .int .u64 b2] 33)).heap[W.heap.size + 1]? = some (.cells #[.string k2, .slice a2 l2.length c2, .int .u64 d2, .int .u64 b2] 33 (0, 0)) := Ext.blk (Ext.alloc (Below.refl _ _) _) (newblk2 W _ _)
  have cf : Box (Calls Tryd.prog 14 #[.slice (some ⟨W.heap.size + 1 + 1, 0, none⟩) 2 2] (((W.alloc (.cells #[.string k1, .slice a1 l1.length c1, .int .u64 d1, .int .u64 b1] 33)).alloc (.cells #[.string k2, .slice a2 l2.length c2, .int .u64 d2, .int .u64 b2] 33)).alloc (.cells #[.string k1, .slice a1 l1.length c1, .int .u64 d1, .int .u64 b1, .string k2, .slice a2 l2.length c2, .int .u64 d2, .int .u64 b2] 33)) fun e w' => e = .returned (.bool (sm k1.size l1.length && sm k2.size l2.length)) ∧ Ext (((W.alloc (.cells #[.string k1, .slice a1 l1.length c1, .int .u64 d1, .int .u64 b1] 33)).alloc (.cells #[.string k2, .slice a2 l2.length c2, .int .u64 d2, .int .u64 b2] 33)).alloc (.cells #[.string k1, .slice a1 l1.length c1, .int .u64 d1, .int .u64 b1, .string k2, .slice a2 l2.length c2, .int .u64 d2, .int .u64 b2] 33)) w') := ⟨few2_any k1 a1 l1.length c1 d1 b1 k2 a2 l2.length c2 d2 b2 _ (W.heap.size + 1 + 1) hk1 hm1 hk2 hm2 (newblk4 W _ _ _)⟩
  rw [hn] at cf
  have cE : Box (∀ w, Ext W w → _) := ⟨fun w hx => equal_any k1 k2 (.slice a1 l1.length c1) (.slice a2 l2.length c2) l1 l2 d1 d2 b1 b2 w (hl1.ext hx) (hl2.ext hx)⟩
  have cR : Box (∀ w, Ext W w → _) := ⟨fun w hx => refEqual_any k1 k2 (.slice a1 l1.length c1) (.slice a2 l2.length c2) l1 l2 d1 d2 b1 b2 w (hl1.ext hx) (hl2.ext hx)⟩
  have cC : Box (∀ w, Ext W w → _) := ⟨fun w hx => refCopy_any k1 (.slice a1 l1.length c1) d1 b1 l1 w (hl1.ext hx) (by omega)⟩
  have cE2 : Box (∀ v w, By w v l1 → Ext W w → Calls Tryd.prog 27 #[.agg #[.string k1, .slice a1 l1.length c1, .int .u64 d1, .int .u64 b1], .agg #[.string k1, v, .int .u64 d1, .int .u64 b1]] w fun e w' => e = .returned (.bool true) ∧ Ext w w') := ⟨fun v w hv hx => by
    have h := equal_any k1 k1 (.slice a1 l1.length c1) v l1 l1 d1 d1 b1 b1 w (hl1.ext hx) hv
    rw [show eqN k1 k1 l1 l1 d1 d1 b1 b1 = true by simp [eqN]] at h
    exact h⟩
  have cb : Box (∀ w, Calls Tryd.prog 26 #[.agg #[.string k1, .slice a1 l1.length c1, .int .u64 d1, .int .u64 b1], .agg #[.string k2, .slice a2 l2.length c2, .int .u64 d2, .int .u64 b2]] w fun e w' => e = .returned (.bool (befN d1 d2 b1 b2)) ∧ Ext w w') := ⟨fun w => before_any _ _ _ _ _ _ _ _ _ _ _ _ w⟩
  have cb' : Box (∀ w, Calls Tryd.prog 29 #[.agg #[.string k1, .slice a1 l1.length c1, .int .u64 d1, .int .u64 b1], .agg #[.string k2, .slice a2 l2.length c2, .int .u64 d2, .int .u64 b2]] w fun e w' => e = .returned (.bool (befN d1 d2 b1 b2)) ∧ Ext w w') := ⟨fun w => refBefore_any _ _ _ _ _ _ _ _ _ _ _ _ w⟩
  generalize befN d1 d2 b1 b2 = q1 at *
  generalize eqN k1 k2 l1 l2 d1 d2 b1 b2 = q2 at *
  have hll : l1.length ≤ 600 := hs1
  clear ht hn hl1 hl2 hk1 hm1 hk2 hm2 hs1
  go_enter Tryd.func8, Tryd.ntmps8
  go_wp2_with (first
    | (go_at_call 14; (with_reducible refine (cf.out).mono ?_); rintro e w1 ⟨rfl, hb⟩; (try clear u0 u1 u2 u3 n0 n1 n2 n3); have hx : Ext W w1 := (by first | exact Ext.trans' hx hb | exact Ext.trans' (Ext.drewN hx 1) hb); have hB := Ext.blk hb hB; have hC := Ext.blk hb hC; obtain ⟨u0, u1, u2, u3, _⟩ := blk4 hB; obtain ⟨n0, n1, n2, n3, _⟩ := blk4 hC; (try (have hv9 := hv9.ext hb))))
  go_region_held3 (fun w' => w'.cell? ⟨W.heap.size, 0, none⟩ = some (.string k1) ∧ w'.cell? ⟨W.heap.size, 1, none⟩ = some (.slice a1 l1.length c1) ∧ w'.cell? ⟨W.heap.size, 2, none⟩ = some (.int .u64 d1) ∧ w'.cell? ⟨W.heap.size, 3, none⟩ = some (.int .u64 b1) ∧ w'.cell? ⟨W.heap.size + 1, 0, none⟩ = some (.string k2) ∧ w'.cell? ⟨W.heap.size + 1, 1, none⟩ = some (.slice a2 l2.length c2) ∧ w'.cell? ⟨W.heap.size + 1, 2, none⟩ = some (.int .u64 d2) ∧ w'.cell? ⟨W.heap.size + 1, 3, none⟩ = some (.int .u64 b2))
    (first
      | go_keep
      | (exact ⟨u0, u1, u2, u3, n0, n1, n2, n3⟩))
    (first
      | (go_at_call 27; (with_reducible refine (cE.out _ (by first | exact hx | exact Ext.drew1 hx)).mono ?_); rintro e w1 ⟨rfl, hb⟩; (try clear u0 u1 u2 u3 n0 n1 n2 n3); have hx : Ext W w1 := (by first | exact Ext.trans' hx hb | exact Ext.trans' (Ext.drewN hx 1) hb); have hB := Ext.blk hb hB; have hC := Ext.blk hb hC; obtain ⟨u0, u1, u2, u3, _⟩ := blk4 hB; obtain ⟨n0, n1, n2, n3, _⟩ := blk4 hC; (try (have hv9 := hv9.ext hb)))
      | (go_at_call 21; (with_reducible refine (cR.out _ (by first | exact hx | exact Ext.drew1 hx)).mono ?_); rintro e w1 ⟨rfl, hb⟩; (try clear u0 u1 u2 u3 n0 n1 n2 n3); have hx : Ext W w1 := (by first | exact Ext.trans' hx hb | exact Ext.trans' (Ext.drewN hx 1) hb); have hB := Ext.blk hb hB; have hC := Ext.blk hb hC; obtain ⟨u0, u1, u2, u3, _⟩ := blk4 hB; obtain ⟨n0, n1, n2, n3, _⟩ := blk4 hC; (try (have hv9 := hv9.ext hb)))
      | (go_at_call 28; (with_reducible refine (cC.out _ (by first | exact hx | exact Ext.drew1 hx)).mono ?_); rintro e w1 ⟨v9, rfl, ho, hb⟩; (try clear u0 u1 u2 u3 n0 n1 n2 n3); have hx : Ext W w1 := (by first | exact Ext.trans' hx hb | exact Ext.trans' (Ext.drewN hx 1) hb); have hB := Ext.blk hb hB; have hC := Ext.blk hb hC; obtain ⟨u0, u1, u2, u3, _⟩ := blk4 hB; obtain ⟨n0, n1, n2, n3, _⟩ := blk4 hC; obtain ⟨a9, c9, rfl⟩ := ho.shape; have hv9 := ho.by (by omega); clear ho)
      | (go_at_call 27; (with_reducible refine (cE2.out _ _ hv9 (by first | exact hx | exact Ext.drew1 hx)).mono ?_); rintro e w1 ⟨rfl, hb⟩; (try clear u0 u1 u2 u3 n0 n1 n2 n3); have hx : Ext W w1 := (by first | exact Ext.trans' hx hb | exact Ext.trans' (Ext.drewN hx 1) hb); have hB := Ext.blk hb hB; have hC := Ext.blk hb hC; obtain ⟨u0, u1, u2, u3, _⟩ := blk4 hB; obtain ⟨n0, n1, n2, n3, _⟩ := blk4 hC; (try (have hv9 := hv9.ext hb)))
      | (go_at_call 26; (with_reducible refine (cb.out _).mono ?_); rintro e w1 ⟨rfl, hb⟩; (try clear u0 u1 u2 u3 n0 n1 n2 n3); have hx : Ext W w1 := (by first | exact Ext.trans' hx hb | exact Ext.trans' (Ext.drewN hx 1) hb); have hB := Ext.blk hb hB; have hC := Ext.blk hb hC; obtain ⟨u0, u1, u2, u3, _⟩ := blk4 hB; obtain ⟨n0, n1, n2, n3, _⟩ := blk4 hC; (try (have hv9 := hv9.ext hb)))
      | (go_at_call 29; (with_reducible refine (cb'.out _).mono ?_); rintro e w1 ⟨rfl, hb⟩; (try clear u0 u1 u2 u3 n0 n1 n2 n3); have hx : Ext W w1 := (by first | exact Ext.trans' hx hb | exact Ext.trans' (Ext.drewN hx 1) hb); have hB := Ext.blk hb hB; have hC := Ext.blk hb hC; obtain ⟨u0, u1, u2, u3, _⟩ := blk4 hB; obtain ⟨n0, n1, n2, n3, _⟩ := blk4 hC; (try (have hv9 := hv9.ext hb)))
      | (go_at_call 9; (with_reducible refine (ck.out _ (by first | exact hx | exact Ext.drew1 hx)).mono ?_); rintro e w1 ⟨rfl, hb⟩; (try clear u0 u1 u2 u3 n0 n1 n2 n3); have hx : Ext W w1 := (by first | exact Ext.trans' hx hb | exact Ext.trans' (Ext.drewN hx 1) hb); have hB := Ext.blk hb hB; have hC := Ext.blk hb hC; obtain ⟨u0, u1, u2, u3, _⟩ := blk4 hB; obtain ⟨n0, n1, n2, n3, _⟩ := blk4 hC; (try (have hv9 := hv9.ext hb))))
  all_goals
    go_wp2
    go_ret
    exact ⟨rfl, hx⟩

set_option maxHeartbeats 1000000 in
theorem lawEntryOrders_walk (v1 v2 : Value) (W : World) (h1 : EntArg W v1) (h2 : EntArg W v2) (ht : Env W) :
    Calls Tryd.prog 8 #[v1, v2] W fun e W' => e = .returned (.bool true) ∧ Below W.heap.size W W' := by
  obtain ⟨k1, x1, y1, z1, rfl, hk1, hx1, hd1, hb1⟩ := h1
  obtain ⟨d1, rfl, ed1⟩ := nat_u64 hd1
  obtain ⟨b1, rfl, eb1⟩ := nat_u64 hb1
  obtain ⟨a1, m1, c1, rfl, hm1, hy1⟩ := by_of_ints hx1
  obtain ⟨k2, x2, y2, z2, rfl, hk2, hx2, hd2, hb2⟩ := h2
  obtain ⟨d2, rfl, ed2⟩ := nat_u64 hd2
  obtain ⟨b2, rfl, eb2⟩ := nat_u64 hb2
  obtain ⟨a2, m2, c2, rfl, hm2, hy2⟩ := by_of_ints hx2
  cases hn : (sm k1.size m1 && sm k2.size m2) with
  | false => exact orders_big k1 a1 m1 c1 d1 b1 k2 a2 m2 c2 d2 b2 W hk1 hm1 hk2 hm2 ht hn
  | true =>
    have hs : m1 ≤ 600 ∧ m2 ≤ 600 := by unfold sm at hn; simp at hn; omega
    obtain ⟨l1, hl1, hby1⟩ := hy1 (by omega)
    obtain ⟨l2, hl2, hby2⟩ := hy2 (by omega)
    subst hl1 hl2
    exact orders_small k1 a1 l1 c1 d1 b1 k2 a2 l2 c2 d2 b2 W hk1 hm1 hk2 hm2 ht hby1 hby2 hn hs.1
end Go.Proofs.YtboecabipkkcgaaDoor
