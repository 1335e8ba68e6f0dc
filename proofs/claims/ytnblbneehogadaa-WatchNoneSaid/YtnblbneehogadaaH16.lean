import Derived.Test.YtnblbneehogadaaH15
import Derived.Test.YtnblbneehogadaaHX
/- Rules that come in; the law WatchFits. -/
namespace Go.Proofs.Ytnblbneehogadaa
open Go.RowKit Go.ChangeMaps
/-- A rule that came in. -/
def RuleArg (W : World) (v : Value) : Prop :=
  ∃ (s : ByteArray) (x : Value) (n : Int) (o : Bool), v = .agg #[.string s, x, .int .i64 n, .bool o] ∧ s.size ≤ 9223372036854775807 ∧ IntsArg .i64 W x ∧ (Lit.int .i64 n).wf = true
theorem kinds_arg {W : World} {v : Value} (h : IntsArg .i64 W v) : ∃ (a : Option Addr) (c : Nat) (L : List Int), v = .slice a L.length c ∧ L.length ≤ 9223372036854775807 ∧ CellsAt W a (L.map (Value.int .i64)) := by
  obtain ⟨a, n, c, zs, rfl, hz, hnc, hc, hwf, hcell⟩ := h
  exact ⟨a, c, zs, by rw [hz], by omega, hcell⟩
theorem open_rule {P : Program} {H : Type} {enc : TypeId × Value → H} {t e : TypeId} {f0 f1 f2 f3 : Field} {base : Nat} {W : World} {v : Value} {d : DataW H} {p : List MemPlace}
    (hs : P.underlying t = some (.struct #[f0, f1, f2, f3])) (hone : Deep.oneCellFields P #[f0, f1, f2, f3] = true) (hC : P.cellsOf t = 4)
    (h0 : P.underlying f0.type = some .string) (h1 : P.underlying f1.type = some (.slice e)) (he : P.underlying e = some (.int .i64)) (hc : P.cellsOf e = 1)
    (h2 : P.underlying f2.type = some (.int .i64)) (h3 : P.underlying f3.type = some .bool)
    (ho : Value.okWide P W .any base t v) (h : DataW.Trod enc P W 0 (fun _ => true) true t v d p) : RuleArg W v := by
  obtain ⟨cs, rfl, hsz, hall⟩ := open_flat hs hone hC ho h
  obtain ⟨c0, y0, n0, q0, t0⟩ := hall 0 f0 rfl
  obtain ⟨c1, y1, n1, q1, t1⟩ := hall 1 f1 rfl
  obtain ⟨c2, y2, n2, q2, t2⟩ := hall 2 f2 rfl
  obtain ⟨c3, y3, n3, q3, t3⟩ := hall 3 f3 rfl
  have hcs : cs = #[c0, c1, c2, c3] := by
    have hz : cs.size = 4 := hsz
    apply Array.ext_getElem?
    intro i
    by_cases hi : i < 4
    · obtain rfl | rfl | rfl | rfl : i = 0 ∨ i = 1 ∨ i = 2 ∨ i = 3 := by omega
      · exact q0
      · exact q1
      · exact q2
      · exact q3
    · rw [Array.getElem?_eq_none (by omega), Array.getElem?_eq_none (by simp; omega)]
  subst hcs
  obtain ⟨s, e0, _, hs0⟩ := DataW.trod_string h0 t0
  obtain ⟨n, e2, _, w2⟩ := DataW.trod_int h2 t2
  obtain ⟨o, e3, _⟩ := DataW.trod_bool h3 t3
  simp at e0 e2 e3
  subst e0 e2 e3
  unfold maxLen at hs0
  exact ⟨s, c1, n, o, rfl, hs0, ints_of_trod h1 he hc t1, w2⟩
set_option maxRecDepth 20000 in
set_option maxHeartbeats 4000000 in
theorem lawWatchFits_walk (v0 v1 : Value) (W : World) (h0 : RuleArg W v0) (h1 : EvArg W v1) :
    Calls Try.prog 3 #[v0, v1] W fun e w' => e = .returned (.bool true) ∧ Ext W w' := by
  obtain ⟨pre, x, room, old, rfl, hps, hx, _⟩ := h0
  obtain ⟨ka, kc, ks, rfl, hkn, hC⟩ := kinds_arg hx
  obtain ⟨k, s, ua, n, uc, b, d, t, rfl, _, hss, _, _, _, _, _⟩ := h1.parts
  clear hx h1
  have hX : Ext W ((W.alloc (.cells #[.string pre, .slice ka ks.length kc, .int .i64 room, .bool old] 24)).alloc (.cells #[.int .i64 k, .string s, .slice ua n uc, .int .u64 b, .int .u64 d, .int .u64 t] 30)) := Ext.alloc (Ext.alloc (Below.refl _ _) _) _
  have hR : ((W.alloc (.cells #[.string pre, .slice ka ks.length kc, .int .i64 room, .bool old] 24)).alloc (.cells #[.int .i64 k, .string s, .slice ua n uc, .int .u64 b, .int .u64 d, .int .u64 t] 30)).heap[W.heap.size]? = some (.cells #[.string pre, .slice ka ks.length kc, .int .i64 room, .bool old] 24 (0, 0)) := Ext.blk (Ext.alloc (Below.refl _ _) _) (newblk W _)
  have hE : ((W.alloc (.cells #[.string pre, .slice ka ks.length kc, .int .i64 room, .bool old] 24)).alloc (.cells #[.int .i64 k, .string s, .slice ua n uc, .int .u64 b, .int .u64 d, .int .u64 t] 30)).heap[W.heap.size + 1]? = some (.cells #[.int .i64 k, .string s, .slice ua n uc, .int .u64 b, .int .u64 d, .int .u64 t] 30 (0, 0)) := by
    have h1 := newblk (W.alloc (.cells #[.string pre, .slice ka ks.length kc, .int .i64 room, .bool old] 24)) (.cells #[.int .i64 k, .string s, .slice ua n uc, .int .u64 b, .int .u64 d, .int .u64 t] 30)
    rw [show (W.alloc (.cells #[.string pre, .slice ka ks.length kc, .int .i64 room, .bool old] 24)).heap.size = W.heap.size + 1 by simp] at h1
    exact h1
  obtain ⟨m0, m1, m2, m3, _⟩ := blk4 hR
  obtain ⟨n0, n1, n2, n3, n4, n5⟩ := blk6 hE
  have cK : Box (∀ w, Calls Try.prog 8 #[] w fun e w' => e = .returned (.bool true) ∧ Ext w w') := ⟨known_any⟩
  by_cases b1 : ks.length ≤ 10 ∧ pre.size ≤ 300 ∧ s.size ≤ 300
  · obtain ⟨b1, b2, b3⟩ := b1
    have d1 : decide ((10 : Int) < (ks.length : Int)) = false := decide_eq_false (by omega)
    have d2 : decide ((300 : Int) < (pre.size : Int)) = false := decide_eq_false (by omega)
    have d3 : decide ((300 : Int) < (s.size : Int)) = false := decide_eq_false (by omega)
    have d4 : decide (10 < ks.length) = false := decide_eq_false (by omega)
    have d5 : decide (300 < pre.size) = false := decide_eq_false (by omega)
    have d6 : decide (300 < s.size) = false := decide_eq_false (by omega)
    have d7 : decide ((ks.length : Int) > 10) = false := decide_eq_false (by omega)
    have d8 : decide ((pre.size : Int) > 300) = false := decide_eq_false (by omega)
    have d9 : decide ((s.size : Int) > 300) = false := decide_eq_false (by omega)
    obtain ⟨q, hq⟩ : ∃ q, q = fitsB pre ks s k := ⟨_, rfl⟩
    have c1 : Box (∀ w, Ext W w → Calls Try.prog 9 #[.agg #[.string pre, .slice ka ks.length kc, .int .i64 room, .bool old], .agg #[.int .i64 k, .string s, .slice ua n uc, .int .u64 b, .int .u64 d, .int .u64 t]] w fun e w' => e = .returned (.bool q) ∧ Ext w w') := ⟨fun w hw => by rw [hq]; exact fits_any pre ka kc ks room old k s ua n uc b d t w (CellsAt.ext hw hC) hkn⟩
    have c2 : Box (∀ w, Ext W w → Calls Try.prog 10 #[.agg #[.string pre, .slice ka ks.length kc, .int .i64 room, .bool old], .agg #[.int .i64 k, .string s, .slice ua n uc, .int .u64 b, .int .u64 d, .int .u64 t]] w fun e w' => e = .returned (.bool q) ∧ Ext w w') := ⟨fun w hw => by rw [hq]; exact lfits_any pre ka kc ks room old k s ua n uc b d t w (CellsAt.ext hw hC) b1 b2 b3⟩
    clear hq
    replace hX := Box.mk hX
    replace hR := Box.mk hR; replace hE := Box.mk hE
    clear hC hkn hps hss b1 b2 b3
    go_enter Try.func3, Try.ntmps3
    go_upto_region 3 with (fail)
    obtain ⟨w2, hw2⟩ : ∃ w2, w2 = ((W.alloc (.cells #[.string pre, .slice ka ks.length kc, .int .i64 room, .bool old] 24)).alloc (.cells #[.int .i64 k, .string s, .slice ua n uc, .int .u64 b, .int .u64 d, .int .u64 t] 30)) := ⟨_, rfl⟩
    rw [← hw2] at hX hR hE m0 m1 m2 m3 n0 n1 n2 n3 n4 n5 ⊢
    clear hw2
    cases q
    all_goals
      go_region_held3 (fun w' => (w'.cell? ⟨W.heap.size, 0, none⟩ = some (.string pre) ∧ w'.cell? ⟨W.heap.size, 1, none⟩ = some (.slice ka ks.length kc) ∧ w'.cell? ⟨W.heap.size, 2, none⟩ = some (.int .i64 room) ∧ w'.cell? ⟨W.heap.size, 3, none⟩ = some (.bool old)) ∧ (w'.cell? ⟨W.heap.size + 1, 0, none⟩ = some (.int .i64 k) ∧ w'.cell? ⟨W.heap.size + 1, 1, none⟩ = some (.string s) ∧ w'.cell? ⟨W.heap.size + 1, 2, none⟩ = some (.slice ua n uc) ∧ w'.cell? ⟨W.heap.size + 1, 3, none⟩ = some (.int .u64 b) ∧ w'.cell? ⟨W.heap.size + 1, 4, none⟩ = some (.int .u64 d) ∧ w'.cell? ⟨W.heap.size + 1, 5, none⟩ = some (.int .u64 t)))
        (first
          | (with_reducible exact ⟨⟨keepd m0, keepd m1, keepd m2, keepd m3⟩, keepd n0, keepd n1, keepd n2, keepd n3, keepd n4, keepd n5⟩)
          | (with_reducible exact ⟨⟨m0, m1, m2, m3⟩, n0, n1, n2, n3, n4, n5⟩))
        (first
          | (go_at_call 9; (with_reducible refine (c1.out _ (Ext.trans' hX.out (Ext.drew1 (Below.refl _ _)))).mono ?_); rintro e w3 ⟨rfl, hx3⟩; replace hx3 := Box.mk (Ext.trans' (Ext.drew1 (w := w2) (Below.refl _ _)) hx3); obtain ⟨m0, m1, m2, m3, _⟩ := blk4 (Ext.blk hx3.out hR.out); obtain ⟨n0, n1, n2, n3, n4, n5⟩ := blk6 (Ext.blk hx3.out hE.out))
          | (go_at_call 10; (with_reducible refine (c2.out _ (Ext.trans' hX.out (Ext.drew1 (Below.refl _ _)))).mono ?_); rintro e w3 ⟨rfl, hx3⟩; replace hx3 := Box.mk (Ext.trans' (Ext.drew1 (w := w2) (Below.refl _ _)) hx3); obtain ⟨m0, m1, m2, m3, _⟩ := blk4 (Ext.blk hx3.out hR.out); obtain ⟨n0, n1, n2, n3, n4, n5⟩ := blk6 (Ext.blk hx3.out hE.out))
          | (go_at_call 10; (with_reducible refine (c2.out _ (Ext.trans' hX.out hx3.out)).mono ?_); rintro e w4 ⟨rfl, hx4⟩; replace hx4 := Box.mk (Ext.trans' hx3.out hx4); obtain ⟨m0, m1, m2, m3, _⟩ := blk4 (Ext.blk hx4.out hR.out); obtain ⟨n0, n1, n2, n3, n4, n5⟩ := blk6 (Ext.blk hx4.out hE.out))
          | (go_at_call 9; (with_reducible refine (c1.out _ (Ext.trans' hX.out hx3.out)).mono ?_); rintro e w4 ⟨rfl, hx4⟩; replace hx4 := Box.mk (Ext.trans' hx3.out hx4); obtain ⟨m0, m1, m2, m3, _⟩ := blk4 (Ext.blk hx4.out hR.out); obtain ⟨n0, n1, n2, n3, n4, n5⟩ := blk6 (Ext.blk hx4.out hE.out))
          | (go_at_call 8; (with_reducible refine (cK.out _).mono ?_); rintro e w5 ⟨rfl, hx5⟩; replace hx5 := Box.mk (Ext.trans' hx4.out hx5); obtain ⟨m0, m1, m2, m3, _⟩ := blk4 (Ext.blk hx5.out hR.out); obtain ⟨n0, n1, n2, n3, n4, n5⟩ := blk6 (Ext.blk hx5.out hE.out)))
    all_goals
      go_wp2
      go_ret
      exact ⟨rfl, Ext.trans' hX.out hx5.out⟩
  · by_cases b2 : 10 < ks.length
    · have d1 : decide ((10 : Int) < (ks.length : Int)) = true := decide_eq_true (by omega)
      have d4 : decide (10 < ks.length) = true := decide_eq_true (by omega)
      have d7 : decide ((ks.length : Int) > 10) = true := decide_eq_true (by omega)
      replace b1 := Box.mk b1; replace b2 := Box.mk b2; replace hX := Box.mk hX
      go_enter Try.func3, Try.ntmps3
      go_wp2_with (first | (go_at_call 8; (with_reducible refine (cK.out _).mono ?_); rintro e w5 ⟨rfl, hx5⟩))
      go_ret
      exact ⟨rfl, Ext.trans' hX.out hx5⟩
    · have d1 : decide ((10 : Int) < (ks.length : Int)) = false := decide_eq_false (by omega)
      have d4 : decide (10 < ks.length) = false := decide_eq_false (by omega)
      have d7 : decide ((ks.length : Int) > 10) = false := decide_eq_false (by omega)
      by_cases b3 : 300 < pre.size
      · have d2 : decide ((300 : Int) < (pre.size : Int)) = true := decide_eq_true (by omega)
        have d5 : decide (300 < pre.size) = true := decide_eq_true (by omega)
        have d8 : decide ((pre.size : Int) > 300) = true := decide_eq_true (by omega)
        replace b1 := Box.mk b1; replace b2 := Box.mk b2; replace b3 := Box.mk b3; replace hX := Box.mk hX
        go_enter Try.func3, Try.ntmps3
        go_wp2_with (first | (go_at_call 8; (with_reducible refine (cK.out _).mono ?_); rintro e w5 ⟨rfl, hx5⟩))
        go_ret
        exact ⟨rfl, Ext.trans' hX.out hx5⟩
      · have d2 : decide ((300 : Int) < (pre.size : Int)) = false := decide_eq_false (by omega)
        have d5 : decide (300 < pre.size) = false := decide_eq_false (by omega)
        have d8 : decide ((pre.size : Int) > 300) = false := decide_eq_false (by omega)
        have d3 : decide ((300 : Int) < (s.size : Int)) = true := decide_eq_true (by omega)
        have d6 : decide (300 < s.size) = true := decide_eq_true (by omega)
        have d9 : decide ((s.size : Int) > 300) = true := decide_eq_true (by omega)
        replace b1 := Box.mk b1; replace b2 := Box.mk b2; replace b3 := Box.mk b3; replace hX := Box.mk hX
        go_enter Try.func3, Try.ntmps3
        go_wp2_with (first | (go_at_call 8; (with_reducible refine (cK.out _).mono ?_); rintro e w5 ⟨rfl, hx5⟩))
        go_ret
        exact ⟨rfl, Ext.trans' hX.out hx5⟩
end Go.Proofs.Ytnblbneehogadaa
