import Derived.Test.YthlnhemdhlkhfaaDoorD19
import Derived.Test.YthlnhemdhlkhfaaDoorST
/- A workload that comes in; the law of the makes. -/
namespace Go.Proofs.YthlnhemdhlkhfaaDoor
open Go.RowKit

/-- A workload that comes in. -/
def LoadArg (v : Value) : Prop := ∃ (k a r p : Int) (s : Nat), v = (.agg #[.int .i64 (k), .int .i64 (a), .int .i64 (r), .int .i64 (p), .int .u64 (s)]) ∧ s < 18446744073709551616
theorem open_load {P : Program} {H : Type} {enc : TypeId × Value → H} {t : TypeId} {f0 f1 f2 f3 f4 : Field} {base : Nat} {r : Reach} {b0 : Nat} {W : World} {v : Value} {d : DataW H} {p : List MemPlace} {sp : Nat → Bool} {held : Bool}
    (hs : P.underlying t = some (.struct #[f0, f1, f2, f3, f4])) (hone : Deep.oneCellFields P #[f0, f1, f2, f3, f4] = true) (hC : P.cellsOf t = 5)
    (h0 : P.underlying f0.type = some (.int .i64)) (h1 : P.underlying f1.type = some (.int .i64)) (h2 : P.underlying f2.type = some (.int .i64)) (h3 : P.underlying f3.type = some (.int .i64)) (h4 : P.underlying f4.type = some (.int .u64))
    (ho : Value.okWide P W r b0 t v) (h : DataW.Trod enc P W base sp held t v d p) : LoadArg v := by
  obtain ⟨cs, rfl, hsz, hall⟩ := open_flat hs hone hC ho h
  obtain ⟨c0, y0, n0, e0, t0⟩ := hall 0 f0 rfl
  obtain ⟨c1, y1, n1, e1, t1⟩ := hall 1 f1 rfl
  obtain ⟨c2, y2, n2, e2, t2⟩ := hall 2 f2 rfl
  obtain ⟨c3, y3, n3, e3, t3⟩ := hall 3 f3 rfl
  obtain ⟨c4, y4, n4, e4, t4⟩ := hall 4 f4 rfl
  obtain ⟨a, q0, _, w0⟩ := DataW.trod_int h0 t0
  obtain ⟨b, q1, _, w1⟩ := DataW.trod_int h1 t1
  obtain ⟨c, q2, _, w2⟩ := DataW.trod_int h2 t2
  obtain ⟨x, q3, _, w3⟩ := DataW.trod_int h3 t3
  obtain ⟨s, q4, _, w4⟩ := DataW.trod_int h4 t4
  simp only [List.cons.injEq, and_true] at q0 q1 q2 q3 q4
  subst q0 q1 q2 q3 q4
  have ws := wf_u64 w4
  refine ⟨a, b, c, x, s.toNat, ?_, by omega⟩
  congr 1
  apply Array.ext'
  apply List.ext_getElem?
  intro i
  match i with
  | 0 => simpa using e0
  | 1 => simpa using e1
  | 2 => simpa using e2
  | 3 => simpa using e3
  | 4 => simpa [Int.toNat_of_nonneg ws.1] using e4
  | i + 5 => rw [List.getElem?_eq_none (by simpa using (show cs.size ≤ i + 5 by rw [hsz]; simp)), List.getElem?_eq_none (by simp)]
theorem vld_int {k a r p : Int} {s : Nat} (h : vldL k a r p s = true) (hs : s < 18446744073709551616) : ∃ k' a' r' p' : Nat, k = k' ∧ a = a' ∧ r = r' ∧ p = p' ∧ Vld k' a' r' p' s := by
  by_cases g : 1 ≤ a ∧ a ≤ 4096 ∧ 0 ≤ r ∧ r ≤ 4096
  · obtain ⟨a', rfl⟩ := Int.eq_ofNat_of_zero_le (show 0 ≤ a by omega)
    obtain ⟨r', rfl⟩ := Int.eq_ofNat_of_zero_le (show 0 ≤ r by omega)
    have hp : 0 ≤ p := by
      rw [vld_in g] at h
      unfold vldK at h
      by_cases hk : k = 1 ∨ k = 2 ∨ k = 3 ∨ k = 4 ∨ k = 5 ∨ k = 6
      · rcases hk with rfl | rfl | rfl | rfl | rfl | rfl <;> simp at h <;> omega
      · rw [if_neg (by omega), if_neg (by omega), if_neg (by omega), if_neg (by omega), if_neg (by omega), if_neg (by omega)] at h
        cases h
    obtain ⟨p', rfl⟩ := Int.eq_ofNat_of_zero_le hp
    obtain ⟨k', hk, V⟩ := vld_to h (by unfold never; omega)
    exact ⟨k', a', r', p', hk, rfl, rfl, rfl, V⟩
  · rw [vld_out g] at h; cases h
set_option maxRecDepth 100000 in
set_option maxHeartbeats 4000000 in
theorem lawLoadMakes_walk (v : Value) (W : World) (hv : LoadArg v) (ht : Env W) :
    Calls Tryd.prog 4 #[v] W fun e W' => e = .returned (.bool true) ∧ Below W.heap.size W W' := by
  obtain ⟨k, a, r, p, s, rfl, hs⟩ := hv
  have ck : Box (∀ w, Ext W w → Calls Tryd.prog 10 #[] w fun e w' => e = .returned (.bool true) ∧ Ext w w') := ⟨fun w h => known_any w (ht.ext h)⟩
  have c1 : Box _ := ⟨fun w => gvalid_any k a r p s w⟩
  have c2 : Box _ := ⟨fun w => refValid_any k a r p s w⟩
  have hx : Ext W (W.alloc (.cells #[.int .i64 (k), .int .i64 (a), .int .i64 (r), .int .i64 (p), .int .u64 (s)] 28)) := Ext.alloc (Below.refl _ _) _
  have hB := newblk W (.cells #[.int .i64 (k), .int .i64 (a), .int .i64 (r), .int .i64 (p), .int .u64 (s)] 28)
  obtain ⟨m0, m1, m2, m3, m4⟩ := blk5 hB
  cases hv : vldL k a r p s with
  | false =>
    have cm : Box _ := ⟨fun w => make_bad k a r p s hv w⟩
    rw [hv] at c1 c2
    clear hv hs ht
    go_enter Tryd.func4, Tryd.ntmps4
    go_wp2
    go_region_held3 (fun w' => w'.cell? ⟨W.heap.size, 0, none⟩ = some (.int .i64 k) ∧ w'.cell? ⟨W.heap.size, 1, none⟩ = some (.int .i64 a) ∧ w'.cell? ⟨W.heap.size, 2, none⟩ = some (.int .i64 r) ∧ w'.cell? ⟨W.heap.size, 3, none⟩ = some (.int .i64 p) ∧ w'.cell? ⟨W.heap.size, 4, none⟩ = some (.int .u64 s))
      (first
        | go_keep
        | (exact ⟨m0, m1, m2, m3, m4⟩))
      (first
        | (go_at_call 11; (with_reducible refine (c1.out _).mono ?_); rintro e w1 ⟨rfl, hb1⟩; (try clear m0 m1 m2 m3 m4); have hx : Ext W w1 := Ext.trans' (Ext.drewN hx 1) hb1; have hB := Ext.blk (Ext.trans' (Ext.drewN (Below.refl _ _) 1) hb1) hB; obtain ⟨m0, m1, m2, m3, m4⟩ := blk5 hB)
        | (go_at_call 12; (with_reducible refine (c2.out _).mono ?_); rintro e w1 ⟨rfl, hb1⟩; (try clear m0 m1 m2 m3 m4); have hx : Ext W w1 := Ext.trans' hx hb1; have hB := Ext.blk hb1 hB; obtain ⟨m0, m1, m2, m3, m4⟩ := blk5 hB))
    go_wp2_with (first
      | (go_at_call 12; (with_reducible refine (c2.out _).mono ?_); rintro e w1 ⟨rfl, hb1⟩; (try clear m0 m1 m2 m3 m4); have hx : Ext W w1 := Ext.trans' hx hb1; have hB := Ext.blk hb1 hB; obtain ⟨m0, m1, m2, m3, m4⟩ := blk5 hB)
      | (go_at_call 13; (with_reducible refine (cm.out _).mono ?_); rintro e w1 ⟨rfl, hb1⟩; (try clear m0 m1 m2 m3 m4); have hx : Ext W w1 := Ext.trans' hx hb1; have hB := Ext.blk hb1 hB; obtain ⟨m0, m1, m2, m3, m4⟩ := blk5 hB)
      | (go_at_call 10; (with_reducible refine (ck.out _ hx).mono ?_); rintro e w1 ⟨rfl, hb1⟩; have hx : Ext W w1 := Ext.trans' hx hb1))
    go_ret
    exact ⟨rfl, hx⟩
  | true =>
    obtain ⟨k', a', r', p', rfl, rfl, rfl, rfl, V⟩ := vld_int hv hs
    have cm : Box _ := ⟨fun w => make_any V w⟩
    have cr : Box _ := ⟨fun w => refMake_any V w⟩
    have hr := V.r2
    have cs : Box (∀ u v w, Sl w u r' (u32s (keyL k' a' r' p' s) r') → Sl w v r' (u32s (keyL k' a' r' p' s) r') → Calls Tryd.prog 14 #[u, v] w fun e w' => e = .returned (.bool true) ∧ Ext w w') := ⟨fun u v w h1 h2 => same_any u v _ _ w h1 h2⟩
    rw [hv] at c1 c2
    clear hv hs ht V
    have key : (decide (400 < (r' : Int)) = true) ∨ decide (400 < (r' : Int)) = false := by cases decide (400 < (r' : Int)) <;> simp
    rcases key with d1 | d1
    all_goals
      go_enter Tryd.func4, Tryd.ntmps4
      go_wp2
      go_region_held3 (fun w' => w'.cell? ⟨W.heap.size, 0, none⟩ = some (.int .i64 k') ∧ w'.cell? ⟨W.heap.size, 1, none⟩ = some (.int .i64 a') ∧ w'.cell? ⟨W.heap.size, 2, none⟩ = some (.int .i64 r') ∧ w'.cell? ⟨W.heap.size, 3, none⟩ = some (.int .i64 p') ∧ w'.cell? ⟨W.heap.size, 4, none⟩ = some (.int .u64 s))
        (first
          | go_keep
          | (exact ⟨m0, m1, m2, m3, m4⟩))
        (first
          | (go_at_call 11; (with_reducible refine (c1.out _).mono ?_); rintro e w1 ⟨rfl, hb1⟩; (try clear m0 m1 m2 m3 m4); have hx : Ext W w1 := Ext.trans' (Ext.drewN hx 1) hb1; have hB := Ext.blk (Ext.trans' (Ext.drewN (Below.refl _ _) 1) hb1) hB; obtain ⟨m0, m1, m2, m3, m4⟩ := blk5 hB)
          | (go_at_call 12; (with_reducible refine (c2.out _).mono ?_); rintro e w1 ⟨rfl, hb1⟩; (try clear m0 m1 m2 m3 m4); have hx : Ext W w1 := Ext.trans' hx hb1; have hB := Ext.blk hb1 hB; obtain ⟨m0, m1, m2, m3, m4⟩ := blk5 hB))
      go_wp2_with (first
        | (go_at_call 12; (with_reducible refine (c2.out _).mono ?_); rintro e w1 ⟨rfl, hb1⟩; (try clear m0 m1 m2 m3 m4); have hx : Ext W w1 := Ext.trans' hx hb1; have hB := Ext.blk hb1 hB; (try have hu := hu.ext hb1); obtain ⟨m0, m1, m2, m3, m4⟩ := blk5 hB)
        | (go_at_call 13; (with_reducible refine (cm.out _).mono ?_); rintro e w1 ⟨u, rfl, hu, hb1⟩; (try clear m0 m1 m2 m3 m4); have hx : Ext W w1 := Ext.trans' hx hb1; have hB := Ext.blk hb1 hB; obtain ⟨m0, m1, m2, m3, m4⟩ := blk5 hB)
        | (go_at_call 15; (with_reducible refine (cr.out _).mono ?_); rintro e w1 ⟨u2, rfl, hu2, hb1⟩; (try clear m0 m1 m2 m3 m4); have hx : Ext W w1 := Ext.trans' hx hb1; have hB := Ext.blk hb1 hB; have hu := hu.ext hb1; obtain ⟨m0, m1, m2, m3, m4⟩ := blk5 hB)
        | (go_at_call 14; (with_reducible refine (cs.out _ _ _ hu hu2).mono ?_); rintro e w1 ⟨rfl, hb1⟩; (try clear m0 m1 m2 m3 m4); have hx : Ext W w1 := Ext.trans' hx hb1)
        | (go_at_call 10; (with_reducible refine (ck.out _ hx).mono ?_); rintro e w1 ⟨rfl, hb1⟩; have hx : Ext W w1 := Ext.trans' hx hb1))
      go_ret
      exact ⟨rfl, hx⟩
end Go.Proofs.YthlnhemdhlkhfaaDoor
