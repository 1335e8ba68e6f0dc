import Derived.Test.YthlnhemdhlkhfaaDoorD32
/- The walk of LoadCounts where the trace is short and as it came. -/
namespace Go.Proofs.YthlnhemdhlkhfaaDoor
open Go.RowKit

set_option maxRecDepth 100000 in
set_option maxHeartbeats 4000000 in
theorem counts_out (v : Value) (f : Nat → Nat) (n : Nat) (kk lg : Int) (W : World) (hv : Sl W v n (u32s f n)) (hn : n ≤ 300) (h7 : lg ≠ 7) (hk : kk < 1 ∨ 4096 < kk) (ht : Env W) :
    Calls Tryd.prog 5 #[v, .int .i64 kk, .int .u8 lg] W fun e W' => e = .returned (.bool true) ∧ Below W.heap.size W W' := by
  have ck : Box (∀ w, Ext W w → Calls Tryd.prog 10 #[] w fun e w' => e = .returned (.bool true) ∧ Ext w w') := ⟨fun w h => known_any w (ht.ext h)⟩
  have cc : Box (∀ w, Ext W w → Calls Tryd.prog 16 #[v, .int .i64 kk] w fun e w' => e = .returned (.tuple #[.slice none 0 0, .int .i64 2]) ∧ w = w') := ⟨fun w h => counts_arg v f n kk w (hv.ext h) (by omega) hk⟩
  have cr : Box (∀ w, Ext W w → Calls Tryd.prog 17 #[v, .int .i64 kk] w fun e w' => e = .returned (.tuple #[.slice none 0 0, .int .i64 2]) ∧ w = w') := ⟨fun w h => refCounts_arg v f n kk w (hv.ext h) (by omega) hk⟩
  have ci : Box _ := ⟨fun w => ints_nil w⟩
  obtain ⟨ad, c, rfl, hl1, hnc, hc⟩ := hv
  have hx : Ext W W := Below.refl _ _
  have d1 : decide (300 < (n : Int)) = false := decide_eq_false (by omega)
  have d2 : decide (300 < n) = false := decide_eq_false (by omega)
  have d3 : (lg == 7) = false := by simpa using h7
  clear ht hc h7 hk
  go_enter Tryd.func5, Tryd.ntmps5
  go_wp2_with (first
    | (go_at_call 16; (with_reducible refine (cc.out _ hx).mono ?_); rintro e w' ⟨rfl, rfl⟩)
    | (go_at_call 17; (with_reducible refine (cr.out _ hx).mono ?_); rintro e w' ⟨rfl, rfl⟩)
    | (go_at_call 18; (with_reducible refine (ci.out _).mono ?_); rintro e w1 ⟨rfl, hb⟩; have hx := Ext.trans' hx hb)
    | (go_at_call 10; (with_reducible refine (ck.out _ hx).mono ?_); rintro e w1 ⟨rfl, hb⟩; have hx := Ext.trans' hx hb))
  go_ret
  exact ⟨rfl, hx⟩
set_option maxRecDepth 100000 in
set_option maxHeartbeats 4000000 in
theorem counts_in (v : Value) (f : Nat → Nat) (n a : Nat) (lg : Int) (W : World) (hv : Sl W v n (u32s f n)) (hn : n ≤ 300) (h7 : lg ≠ 7) (h0 : 1 ≤ a) (ha : a ≤ 4096) (hf : ∀ i, i < n → f i < 4294967296) (ht : Env W) :
    Calls Tryd.prog 5 #[v, .int .i64 a, .int .u8 lg] W fun e W' => e = .returned (.bool true) ∧ Below W.heap.size W W' := by
  have ck : Box (∀ w, Ext W w → Calls Tryd.prog 10 #[] w fun e w' => e = .returned (.bool true) ∧ Ext w w') := ⟨fun w h => known_any w (ht.ext h)⟩
  by_cases hg : ∀ i, i < n → f i < a
  · have cc : Box (∀ w, Ext W w → Calls Tryd.prog 16 #[v, .int .i64 a] w fun e w' => ∃ u, e = .returned (.tuple #[u, .int .i64 0]) ∧ Sl w' u a (i64s (cnt f n) a) ∧ Ext w w') := ⟨fun w h => (counts_any v f n a w (hv.ext h) (by omega) h0 ha hf).mono fun e w' ⟨hx, h⟩ => by
      rcases h with ⟨u, h1, h2, h3⟩ | ⟨h1, i, h2, h3⟩
      · exact ⟨u, h1, h2, hx⟩
      · have := hg i h2; omega⟩
    have cr : Box (∀ w, Ext W w → Calls Tryd.prog 17 #[v, .int .i64 a] w fun e w' => ∃ u, e = .returned (.tuple #[u, .int .i64 0]) ∧ Sl w' u a (i64s (cnt f n) a) ∧ Ext w w') := ⟨fun w h => (refCounts_any v f n a w (hv.ext h) (by omega) h0 ha hf).mono fun e w' ⟨hx, h⟩ => by
      rcases h with ⟨u, h1, h2, h3⟩ | ⟨h1, i, h2, h3⟩
      · exact ⟨u, h1, h2, hx⟩
      · have := hg i h2; omega⟩
    have ci : Box (∀ u v w, Sl w u a (i64s (cnt f n) a) → Sl w v a (i64s (cnt f n) a) → Calls Tryd.prog 18 #[u, v] w fun e w' => e = .returned (.bool true) ∧ Ext w w') := ⟨fun u v w h1 h2 => ints_any u v _ _ w h1 h2⟩
    obtain ⟨ad, c, rfl, hl1, hnc, hc⟩ := hv
    have hx : Ext W W := Below.refl _ _
    have d1 : decide (300 < (n : Int)) = false := decide_eq_false (by omega)
    have d2 : decide (300 < n) = false := decide_eq_false (by omega)
    have d3 : (lg == 7) = false := by simpa using h7
    clear ht hc h7 hg hf
    go_enter Tryd.func5, Tryd.ntmps5
    go_wp2_with (first
      | (go_at_call 16; (with_reducible refine (cc.out _ hx).mono ?_); rintro e w1 ⟨u, rfl, hu, hb⟩; have hx := Ext.trans' hx hb)
      | (go_at_call 17; (with_reducible refine (cr.out _ hx).mono ?_); rintro e w1 ⟨u2, rfl, hu2, hb⟩; have hx := Ext.trans' hx hb; have hu := hu.ext hb)
      | (go_at_call 18; (with_reducible refine (ci.out _ _ _ hu hu2).mono ?_); rintro e w1 ⟨rfl, hb⟩; have hx := Ext.trans' hx hb)
      | (go_at_call 10; (with_reducible refine (ck.out _ hx).mono ?_); rintro e w1 ⟨rfl, hb⟩; have hx := Ext.trans' hx hb))
    go_ret
    exact ⟨rfl, hx⟩
  · obtain ⟨i, hi⟩ := Classical.not_forall.1 hg
    obtain ⟨hi, hia⟩ := Classical.not_imp.1 hi
    have cc : Box (∀ w, Ext W w → Calls Tryd.prog 16 #[v, .int .i64 a] w fun e w' => e = .returned (.tuple #[.slice none 0 0, .int .i64 3]) ∧ Ext w w') := ⟨fun w h => (counts_any v f n a w (hv.ext h) (by omega) h0 ha hf).mono fun e w' ⟨hx, h⟩ => by
      rcases h with ⟨u, h1, h2, h3⟩ | ⟨h1, _⟩
      · exact absurd (h3 i hi) hia
      · exact ⟨h1, hx⟩⟩
    have cr : Box (∀ w, Ext W w → Calls Tryd.prog 17 #[v, .int .i64 a] w fun e w' => e = .returned (.tuple #[.slice none 0 0, .int .i64 3]) ∧ Ext w w') := ⟨fun w h => (refCounts_any v f n a w (hv.ext h) (by omega) h0 ha hf).mono fun e w' ⟨hx, h⟩ => by
      rcases h with ⟨u, h1, h2, h3⟩ | ⟨h1, _⟩
      · exact absurd (h3 i hi) hia
      · exact ⟨h1, hx⟩⟩
    have ci : Box _ := ⟨fun w => ints_nil w⟩
    obtain ⟨ad, c, rfl, hl1, hnc, hc⟩ := hv
    have hx : Ext W W := Below.refl _ _
    have d1 : decide (300 < (n : Int)) = false := decide_eq_false (by omega)
    have d2 : decide (300 < n) = false := decide_eq_false (by omega)
    have d3 : (lg == 7) = false := by simpa using h7
    clear ht hc h7 hg hf hi hia
    go_enter Tryd.func5, Tryd.ntmps5
    go_wp2_with (first
      | (go_at_call 16; (with_reducible refine (cc.out _ hx).mono ?_); rintro e w1 ⟨rfl, hb⟩; have hx := Ext.trans' hx hb)
      | (go_at_call 17; (with_reducible refine (cr.out _ hx).mono ?_); rintro e w1 ⟨rfl, hb⟩; have hx := Ext.trans' hx hb)
      | (go_at_call 18; (with_reducible refine (ci.out _).mono ?_); rintro e w1 ⟨rfl, hb⟩; have hx := Ext.trans' hx hb)
      | (go_at_call 10; (with_reducible refine (ck.out _ hx).mono ?_); rintro e w1 ⟨rfl, hb⟩; have hx := Ext.trans' hx hb))
    go_ret
    exact ⟨rfl, hx⟩
theorem lawLoadCounts_walk (v : Value) (kk lg : Int) (W : World) (hv : IntsArg .u32 W v) (w1 : (Lit.int .i64 kk).wf = true) (w2 : (Lit.int .u8 lg).wf = true) (ht : Env W) :
    Calls Tryd.prog 5 #[v, .int .i64 kk, .int .u8 lg] W fun e W' => e = .returned (.bool true) ∧ Below W.heap.size W W' := by
  obtain ⟨p, n, c, zs, rfl, hl, hnc, hcm, hz, hcells⟩ := hv
  by_cases hn : n ≤ 300
  · by_cases h7 : lg = 7
    · subst h7
      exact counts_seven p n c zs kk W hl hn hcells ht
    · have hs : Sl W (.slice p n c) n (u32s (zF zs) n) := ⟨p, c, rfl, by omega, hnc, by rw [← hl, zF_cells zs hz]; exact hcells⟩
      by_cases hk : kk < 1 ∨ 4096 < kk
      · exact counts_out _ _ n kk lg W hs hn h7 hk ht
      · obtain ⟨a, rfl⟩ : ∃ a : Nat, kk = a := ⟨kk.toNat, by omega⟩
        exact counts_in _ _ n a lg W hs hn h7 (by omega) (by omega) (fun i hi => zF_lt zs hz i (by omega)) ht
  · exact counts_big p n c _ _ W (by omega) (by omega) ht
end Go.Proofs.YthlnhemdhlkhfaaDoor
