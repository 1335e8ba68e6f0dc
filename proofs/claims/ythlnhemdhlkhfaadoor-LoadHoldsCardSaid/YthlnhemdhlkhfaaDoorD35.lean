import Derived.Test.YthlnhemdhlkhfaaDoorD34
/- The walk of LoadHolds where the workload is valid. -/
namespace Go.Proofs.YthlnhemdhlkhfaaDoor
open Go.RowKit
set_option maxRecDepth 100000 in
set_option maxHeartbeats 4000000 in
theorem holds_2 {k a r p s : Nat} (m : Nat) (W : World) (V : Vld k a r p s) (hm : m ≤ r) (h2k : k = 2) (ht : Env W) :
    Calls Tryd.prog 7 #[(.agg #[.int .i64 (k), .int .i64 (a), .int .i64 (r), .int .i64 (p), .int .u64 (s)]), .int .i64 m] W fun e W' => e = .returned (.bool true) ∧ Below W.heap.size W W' := by
  have ck : Box (∀ w, Ext W w → Calls Tryd.prog 10 #[] w fun e w' => e = .returned (.bool true) ∧ Ext w w') := ⟨fun w h => known_any w (ht.ext h)⟩
  have cv : Box _ := ⟨fun w => refValid_any k a r p s w⟩
  rw [vld_of V] at cv
  have cm : Box _ := ⟨fun w => make_any V w⟩
  have cc : Box (∀ ad c w, r ≤ c → CellsAt w ad (u32s (keyL k a r p s) r) → Calls Tryd.prog 16 #[.slice ad r c, .int .i64 a] w fun e w' => ∃ v, e = .returned (.tuple #[v, .int .i64 0]) ∧ Sl w' v a (i64s (cnt (keyL k a r p s) r) a) ∧ Ext w w') := ⟨fun ad c w h1 h2 => (counts_any _ (keyL k a r p s) r a w ⟨ad, c, rfl, by have := V.r2; omega, h1, h2⟩ V.r2 V.a1 V.a2 (fun i hi => by have := keyL_lt V hi; have := V.a2; omega)).mono fun e w' ⟨hx, h⟩ => by
    rcases h with ⟨v, h1, h2, h3⟩ | ⟨h1, i, h2, h3⟩
    · exact ⟨v, h1, h2, hx⟩
    · have := keyL_lt V h2; omega⟩
  have ct : Box (∀ w, Ext W w → _) := ⟨fun w h => gtext_any V w (ht.ext h).tabs⟩
  have cp : Box (∀ w, Ext W w → _) := ⟨fun w h => parse_yes V (text_list k a r p s).symm w (textB_size V) (ht.ext h)⟩
  have h5 : k ≠ 5 := by omega
  have cm2 : Box _ := ⟨fun w => make_any (V.fewer m hm h5) w⟩
  rw [u32s_fewer (g := keyL k a r p s) m (fun i => keyL_fewer k a r m p s i h5)] at cm2
  have cs : Box (∀ u v w, Sl w u m (u32s (keyL k a r p s) m) → Sl w v m (u32s (keyL k a r p s) m) → Calls Tryd.prog 14 #[u, v] w fun e w' => e = .returned (.bool true) ∧ Ext w w') := ⟨fun u v w h1 h2 => same_any u v _ _ w h1 h2⟩
  have d5 : ((k : Int) == 5) = false := by simp; omega
  have dk2 : ((k : Int) == 2) = true := by simp; omega
  have dk1 : ((k : Int) == 1) = false := by simp; omega
  have hone : Box (∀ j, cnt (keyL k a r p s) r j ≤ 1) := ⟨fun j => by subst h2k; exact cnt_scan_le a r p s r j⟩
  have hsum : Box (∀ i, i ≤ a → sumN (cnt (keyL k a r p s) r) i ≤ r) := ⟨fun i hi => by
    have h1 := sumN_mono (cnt (keyL k a r p s) r) hi
    rw [sum_cnt _ a r (fun i hi => keyL_lt V hi)] at h1
    exact h1⟩
  have hend : Box _ := ⟨sum_cnt (keyL k a r p s) a r (fun i hi => keyL_lt V hi)⟩
  have hgr : Box _ := ⟨cnt_le (keyL k a r p s) r⟩
  have h2 := V.a2; have h3 := V.r2; have h4 := V.a1
  have hk6 : k ≤ 6 := by rcases V.k6 with h | h | h | h | h | h <;> omega
  generalize textB k a r p s = y at *
  generalize cnt (keyL k a r p s) r = g at *
  generalize keyL k a r p s = f at *
  have hX : Ext W (W.alloc (.cells #[.int .i64 (k), .int .i64 (a), .int .i64 (r), .int .i64 (p), .int .u64 (s)] 28)) := Ext.alloc (Below.refl _ _) _
  have hB := newblk W (.cells #[.int .i64 (k), .int .i64 (a), .int .i64 (r), .int .i64 (p), .int .u64 (s)] 28)
  obtain ⟨m0, m1, m2, m3, m4⟩ := blk5 hB
  have hg := load_struct.2.2
  have hq := eqL k a r p s
  have f1 : decide ((m : Int) < 0) = false := decide_eq_false (by omega)
  have f2 : decide ((r : Int) < (m : Int)) = false := decide_eq_false (by omega)
  clear ht V h2k
  go_enter Tryd.func7, Tryd.ntmps7
  go_wp2_with (first
    | (go_at_call 12; (with_reducible refine (cv.out _).mono ?_); rintro e w1 ⟨rfl, hb⟩; have hX := Ext.trans' hX hb; have hB := Ext.blk hb hB; (try have hu := Box.mk (CellsAt.ext hb hu.out)); (try have hP := Ext.blk hb hP); (try clear m0 m1 m2 m3 m4); obtain ⟨m0, m1, m2, m3, m4⟩ := blk5 hB)
    | (go_at_call 13; (with_reducible refine (cm.out _).mono ?_); rintro e w1 ⟨u, rfl, hu, hb⟩; obtain ⟨ad, c, rfl, hl1, hrc, hu⟩ := hu; replace hu := Box.mk hu; have hX := Ext.trans' hX hb; have hB := Ext.blk hb hB; (try clear m0 m1 m2 m3 m4); obtain ⟨m0, m1, m2, m3, m4⟩ := blk5 hB)
    | (go_at_call 16; (with_reducible refine (cc.out _ _ _ hrc hu.out).mono ?_); rintro e w2 ⟨n, rfl, hn, hb⟩; obtain ⟨ad2, c2, rfl, hl2, hac, hn⟩ := hn; replace hn := Box.mk hn; have hw2 := Ext.trans' hX hb; have hX := Ext.trans' hX hb; have hB := Ext.blk hb hB; (try have hu := Box.mk (CellsAt.ext hb hu.out)); (try have hP := Ext.blk hb hP); (try clear m0 m1 m2 m3 m4); obtain ⟨m0, m1, m2, m3, m4⟩ := blk5 hB))
  go_loopw [9, 10] (fun sm i wr => ∃ t : Nat, t ≤ a ∧ i = .int .i64 t ∧ sm = .int .i64 (sumN g t) ∧ Box (Ext w2 wr)) (fun _ i _ => a - (intOf i).toNat)
  case atStart => exact ⟨0, by omega, rfl, rfl, ⟨Below.refl _ _⟩⟩
  case round =>
    obtain ⟨t, hta, rfl, rfl, hb2⟩ := hrel
    clear m0 m1 m2 m3 m4
    have hX := Ext.trans' hX hb2.out
    have hB := Ext.blk hb2.out hB
    obtain ⟨m0, m1, m2, m3, m4⟩ := blk5 hB
    replace hu := Box.mk (CellsAt.ext hb2.out hu.out)
    replace hn := Box.mk (CellsAt.ext hb2.out hn.out)
    by_cases htn : t < a
    · obtain ⟨b1, o1, rfl, hcell1⟩ := hn.out t _ (i64s_at g htn)
      have hS : Box (sumN g (t + 1) = sumN g t + g t) := ⟨rfl⟩
      have hbd := hsum.out (t + 1) (by omega)
      rw [hS.out] at hbd
      have hz1 := hone.out t
      generalize g t = z at *
      generalize sumN g t = S at *
      have u1 : IntKind.i64.wrap ((S : Int) + (z : Int)) = (S : Int) + z := by rw [IntKind.wrap_i64]; omega
      have dz : decide (1 < (z : Int)) = false := decide_eq_false (by omega)
      go_wp2
      go_quiet (fail)
      go_wp2
      go_roundw
      case rel => exact ⟨t + 1, by omega, by go_num, by rw [hS.out]; go_num, ⟨Ext.drewN hb2.out _⟩⟩
      case measure => simp [intOf]; omega
    · obtain rfl : a = t := by omega
      have he := hend.out
      rw [he]
      go_wp2_with (first
        | (go_at_call 19; (with_reducible refine (ct.out _ hX).mono ?_); rintro e w3 ⟨rfl, hb⟩; have hX := Ext.trans' hX hb; have hB := Ext.blk hb hB; (try have hu := Box.mk (CellsAt.ext hb hu.out)); (try have hP := Ext.blk hb hP); (try clear m0 m1 m2 m3 m4); obtain ⟨m0, m1, m2, m3, m4⟩ := blk5 hB)
        | (go_at_call 21; (with_reducible refine (cp.out _ hX).mono ?_); rintro e w4 ⟨rfl, hb⟩; have hX := Ext.trans' hX hb; have hB := Ext.blk hb hB; (try have hu := Box.mk (CellsAt.ext hb hu.out)); (try have hP := Ext.blk hb hP); (try clear m0 m1 m2 m3 m4); obtain ⟨m0, m1, m2, m3, m4⟩ := blk5 hB; have hX := Ext.alloc hX (.cells #[.int .i64 (k), .int .i64 (a), .int .i64 (r), .int .i64 (p), .int .u64 (s)] 28); have hB := Ext.blk (Ext.alloc (Below.refl _ _) (.cells #[.int .i64 (k), .int .i64 (a), .int .i64 (r), .int .i64 (p), .int .u64 (s)] 28)) hB; have hP := newblk w4 (.cells #[.int .i64 (k), .int .i64 (a), .int .i64 (r), .int .i64 (p), .int .u64 (s)] 28); (try clear m0 m1 m2 m3 m4); obtain ⟨m0, m1, m2, m3, m4⟩ := blk5 hB; obtain ⟨c0, c1, c2, c3, c4⟩ := blk5 hP; have fz := Lib.frozen_of_heap hB 2)

        | (go_at_call 13; (with_reducible refine (cm2.out _).mono ?_); rintro e w5 ⟨u2, rfl, hu2, hb⟩; have hu := Box.mk (CellsAt.ext hb (CellsAt.keepSet (CellsAt.ext (Ext.alloc (Below.refl _ _) _) hu.out) m2 (u32s_no f r _) _)); have hX := Ext.trans' (Below.setCell hX (p := ⟨W.heap.size, 2, none⟩) (Nat.le_refl _) _) hb; have hs2 : Sl w5 (.slice ad m c) m (u32s f m) := ⟨ad, c, rfl, by omega, by omega, CellsAt.fewer hu.out hm⟩)
        | (go_at_call 14; (with_reducible refine (cs.out _ _ _ hu2 hs2).mono ?_); rintro e w6 ⟨rfl, hb⟩; have hX := Ext.trans' hX hb)
        | (go_at_call 10; (with_reducible refine (ck.out _ hX).mono ?_); rintro e w1 ⟨rfl, hb⟩; have hX := Ext.trans' hX hb))
      go_ret
      exact ⟨rfl, hX⟩
set_option maxRecDepth 100000 in
set_option maxHeartbeats 4000000 in
theorem holds_1 {k a r p s : Nat} (m : Nat) (W : World) (V : Vld k a r p s) (hm : m ≤ r) (h1k : k = 1) (ht : Env W) :
    Calls Tryd.prog 7 #[(.agg #[.int .i64 (k), .int .i64 (a), .int .i64 (r), .int .i64 (p), .int .u64 (s)]), .int .i64 m] W fun e W' => e = .returned (.bool true) ∧ Below W.heap.size W W' := by
  have ck : Box (∀ w, Ext W w → Calls Tryd.prog 10 #[] w fun e w' => e = .returned (.bool true) ∧ Ext w w') := ⟨fun w h => known_any w (ht.ext h)⟩
  have cv : Box _ := ⟨fun w => refValid_any k a r p s w⟩
  rw [vld_of V] at cv
  have cm : Box _ := ⟨fun w => make_any V w⟩
  have cc : Box (∀ ad c w, r ≤ c → CellsAt w ad (u32s (keyL k a r p s) r) → Calls Tryd.prog 16 #[.slice ad r c, .int .i64 a] w fun e w' => ∃ v, e = .returned (.tuple #[v, .int .i64 0]) ∧ Sl w' v a (i64s (cnt (keyL k a r p s) r) a) ∧ Ext w w') := ⟨fun ad c w h1 h2 => (counts_any _ (keyL k a r p s) r a w ⟨ad, c, rfl, by have := V.r2; omega, h1, h2⟩ V.r2 V.a1 V.a2 (fun i hi => by have := keyL_lt V hi; have := V.a2; omega)).mono fun e w' ⟨hx, h⟩ => by
    rcases h with ⟨v, h1, h2, h3⟩ | ⟨h1, i, h2, h3⟩
    · exact ⟨v, h1, h2, hx⟩
    · have := keyL_lt V h2; omega⟩
  have ct : Box (∀ w, Ext W w → _) := ⟨fun w h => gtext_any V w (ht.ext h).tabs⟩
  have cp : Box (∀ w, Ext W w → _) := ⟨fun w h => parse_yes V (text_list k a r p s).symm w (textB_size V) (ht.ext h)⟩
  have h5 : k ≠ 5 := by omega
  have cm2 : Box _ := ⟨fun w => make_any (V.fewer m hm h5) w⟩
  rw [u32s_fewer (g := keyL k a r p s) m (fun i => keyL_fewer k a r m p s i h5)] at cm2
  have cs : Box (∀ u v w, Sl w u m (u32s (keyL k a r p s) m) → Sl w v m (u32s (keyL k a r p s) m) → Calls Tryd.prog 14 #[u, v] w fun e w' => e = .returned (.bool true) ∧ Ext w w') := ⟨fun u v w h1 h2 => same_any u v _ _ w h1 h2⟩
  have d5 : ((k : Int) == 5) = false := by simp; omega
  have dk2 : ((k : Int) == 2) = false := by simp; omega
  have dk1 : ((k : Int) == 1) = true := by simp; omega
  have hle : Box (∀ j, j + 1 < a → cnt (keyL k a r p s) r (j + 1) ≤ cnt (keyL k a r p s) r j) := ⟨fun j hj => by subst h1k; exact loop_le a r p s r j hj⟩
  have hge : Box (∀ j, j < a → cnt (keyL k a r p s) r 0 ≤ cnt (keyL k a r p s) r j + 1) := ⟨fun j hj => by subst h1k; exact loop_ge a r p s r j hj⟩
  have hsum : Box (∀ i, i ≤ a → sumN (cnt (keyL k a r p s) r) i ≤ r) := ⟨fun i hi => by
    have h1 := sumN_mono (cnt (keyL k a r p s) r) hi
    rw [sum_cnt _ a r (fun i hi => keyL_lt V hi)] at h1
    exact h1⟩
  have hend : Box _ := ⟨sum_cnt (keyL k a r p s) a r (fun i hi => keyL_lt V hi)⟩
  have hgr : Box _ := ⟨cnt_le (keyL k a r p s) r⟩
  have h2 := V.a2; have h3 := V.r2; have h4 := V.a1
  have hk6 : k ≤ 6 := by rcases V.k6 with h | h | h | h | h | h <;> omega
  generalize textB k a r p s = y at *
  generalize cnt (keyL k a r p s) r = g at *
  generalize keyL k a r p s = f at *
  have hX : Ext W (W.alloc (.cells #[.int .i64 (k), .int .i64 (a), .int .i64 (r), .int .i64 (p), .int .u64 (s)] 28)) := Ext.alloc (Below.refl _ _) _
  have hB := newblk W (.cells #[.int .i64 (k), .int .i64 (a), .int .i64 (r), .int .i64 (p), .int .u64 (s)] 28)
  obtain ⟨m0, m1, m2, m3, m4⟩ := blk5 hB
  have hg := load_struct.2.2
  have hq := eqL k a r p s
  have f1 : decide ((m : Int) < 0) = false := decide_eq_false (by omega)
  have f2 : decide ((r : Int) < (m : Int)) = false := decide_eq_false (by omega)
  clear ht V h1k
  go_enter Tryd.func7, Tryd.ntmps7
  go_wp2_with (first
    | (go_at_call 12; (with_reducible refine (cv.out _).mono ?_); rintro e w1 ⟨rfl, hb⟩; have hX := Ext.trans' hX hb; have hB := Ext.blk hb hB; (try have hu := Box.mk (CellsAt.ext hb hu.out)); (try have hP := Ext.blk hb hP); (try clear m0 m1 m2 m3 m4); obtain ⟨m0, m1, m2, m3, m4⟩ := blk5 hB)
    | (go_at_call 13; (with_reducible refine (cm.out _).mono ?_); rintro e w1 ⟨u, rfl, hu, hb⟩; obtain ⟨ad, c, rfl, hl1, hrc, hu⟩ := hu; replace hu := Box.mk hu; have hX := Ext.trans' hX hb; have hB := Ext.blk hb hB; (try clear m0 m1 m2 m3 m4); obtain ⟨m0, m1, m2, m3, m4⟩ := blk5 hB)
    | (go_at_call 16; (with_reducible refine (cc.out _ _ _ hrc hu.out).mono ?_); rintro e w2 ⟨n, rfl, hn, hb⟩; obtain ⟨ad2, c2, rfl, hl2, hac, hn⟩ := hn; replace hn := Box.mk hn; have hw2 := Ext.trans' hX hb; have hX := Ext.trans' hX hb; have hB := Ext.blk hb hB; (try have hu := Box.mk (CellsAt.ext hb hu.out)); (try have hP := Ext.blk hb hP); (try clear m0 m1 m2 m3 m4); obtain ⟨m0, m1, m2, m3, m4⟩ := blk5 hB))
  go_loopw [9, 10] (fun sm i wr => ∃ t : Nat, t ≤ a ∧ i = .int .i64 t ∧ sm = .int .i64 (sumN g t) ∧ Box (Ext w2 wr)) (fun _ i _ => a - (intOf i).toNat)
  case atStart => exact ⟨0, by omega, rfl, rfl, ⟨Below.refl _ _⟩⟩
  case round =>
    obtain ⟨t, hta, rfl, rfl, hb2⟩ := hrel
    clear m0 m1 m2 m3 m4
    have hX := Ext.trans' hX hb2.out
    have hB := Ext.blk hb2.out hB
    obtain ⟨m0, m1, m2, m3, m4⟩ := blk5 hB
    replace hu := Box.mk (CellsAt.ext hb2.out hu.out)
    replace hn := Box.mk (CellsAt.ext hb2.out hn.out)
    by_cases htn : t < a
    · obtain ⟨b1, o1, rfl, hcell1⟩ := hn.out t _ (i64s_at g htn)
      have hS : Box (sumN g (t + 1) = sumN g t + g t) := ⟨rfl⟩
      have hbd := hsum.out (t + 1) (by omega)
      rw [hS.out] at hbd
      by_cases h0 : t = 0
      · have dt : decide (0 < (t : Int)) = false := decide_eq_false (by omega)
        have dt2 : decide (0 < t) = false := decide_eq_false (by omega)
        clear h0
        generalize g t = z at *
        generalize sumN g t = S at *
        have u1 : IntKind.i64.wrap ((S : Int) + (z : Int)) = (S : Int) + z := by rw [IntKind.wrap_i64]; omega
        go_wp2
        go_quiet (fail)
        go_wp2
        go_roundw
        case rel => exact ⟨t + 1, by omega, by go_num, by rw [hS.out]; go_num, ⟨Ext.drewN hb2.out _⟩⟩
        case measure => simp [intOf]; omega
      · obtain ⟨q, rfl⟩ : ∃ q, t = q + 1 := ⟨t - 1, by omega⟩
        obtain ⟨b3, o3, he3, hcell3⟩ := hn.out q _ (i64s_at g (by omega))
        cases he3
        obtain ⟨b3, o3, he3, hcell0⟩ := hn.out 0 _ (i64s_at g (by omega))
        cases he3
        rw [Nat.add_zero] at hcell0
        have hq1 := hle.out q htn
        have hq2 := hge.out (q + 1) htn
        have hq3 := hgr.out 0
        generalize g (q + 1) = z at *
        generalize sumN g (q + 1) = S at *
        generalize g q = z1 at *
        generalize g 0 = z0 at *
        have u1 : IntKind.i64.wrap ((S : Int) + (z : Int)) = (S : Int) + z := by rw [IntKind.wrap_i64]; omega
        have u2 : IntKind.i64.wrap ((z0 : Int) - 1) = (z0 : Int) - 1 := by rw [IntKind.wrap_i64]; omega
        have u3 : IntKind.i64.wrap ((q : Int) + 1 - 1) = q := by rw [IntKind.wrap_i64]; omega
        have u4 : IntKind.i64.wrap (q : Int) = q := by rw [IntKind.wrap_i64]; omega
        have dt : decide (0 < ((q : Int) + 1)) = true := decide_eq_true (by omega)
        have dA : decide ((z1 : Int) < (z : Int)) = false := decide_eq_false (by omega)
        have dA2 : decide (z1 < z) = false := decide_eq_false (by omega)
        have dB : decide ((z : Int) < (z0 : Int) - 1) = false := decide_eq_false (by omega)
        go_wp2
        go_quiet (fail)
        go_wp2
        go_roundw
        case rel => exact ⟨q + 1 + 1, by omega, by go_num, by rw [hS.out]; go_num, ⟨Ext.drewN hb2.out _⟩⟩
        case measure => simp [intOf]; omega
    · obtain rfl : a = t := by omega
      have he := hend.out
      rw [he]
      go_wp2_with (first
        | (go_at_call 19; (with_reducible refine (ct.out _ hX).mono ?_); rintro e w3 ⟨rfl, hb⟩; have hX := Ext.trans' hX hb; have hB := Ext.blk hb hB; (try have hu := Box.mk (CellsAt.ext hb hu.out)); (try have hP := Ext.blk hb hP); (try clear m0 m1 m2 m3 m4); obtain ⟨m0, m1, m2, m3, m4⟩ := blk5 hB)
        | (go_at_call 21; (with_reducible refine (cp.out _ hX).mono ?_); rintro e w4 ⟨rfl, hb⟩; have hX := Ext.trans' hX hb; have hB := Ext.blk hb hB; (try have hu := Box.mk (CellsAt.ext hb hu.out)); (try have hP := Ext.blk hb hP); (try clear m0 m1 m2 m3 m4); obtain ⟨m0, m1, m2, m3, m4⟩ := blk5 hB; have hX := Ext.alloc hX (.cells #[.int .i64 (k), .int .i64 (a), .int .i64 (r), .int .i64 (p), .int .u64 (s)] 28); have hB := Ext.blk (Ext.alloc (Below.refl _ _) (.cells #[.int .i64 (k), .int .i64 (a), .int .i64 (r), .int .i64 (p), .int .u64 (s)] 28)) hB; have hP := newblk w4 (.cells #[.int .i64 (k), .int .i64 (a), .int .i64 (r), .int .i64 (p), .int .u64 (s)] 28); (try clear m0 m1 m2 m3 m4); obtain ⟨m0, m1, m2, m3, m4⟩ := blk5 hB; obtain ⟨c0, c1, c2, c3, c4⟩ := blk5 hP; have fz := Lib.frozen_of_heap hB 2)

        | (go_at_call 13; (with_reducible refine (cm2.out _).mono ?_); rintro e w5 ⟨u2, rfl, hu2, hb⟩; have hu := Box.mk (CellsAt.ext hb (CellsAt.keepSet (CellsAt.ext (Ext.alloc (Below.refl _ _) _) hu.out) m2 (u32s_no f r _) _)); have hX := Ext.trans' (Below.setCell hX (p := ⟨W.heap.size, 2, none⟩) (Nat.le_refl _) _) hb; have hs2 : Sl w5 (.slice ad m c) m (u32s f m) := ⟨ad, c, rfl, by omega, by omega, CellsAt.fewer hu.out hm⟩)
        | (go_at_call 14; (with_reducible refine (cs.out _ _ _ hu2 hs2).mono ?_); rintro e w6 ⟨rfl, hb⟩; have hX := Ext.trans' hX hb)
        | (go_at_call 10; (with_reducible refine (ck.out _ hX).mono ?_); rintro e w1 ⟨rfl, hb⟩; have hX := Ext.trans' hX hb))
      go_ret
      exact ⟨rfl, hX⟩
set_option maxRecDepth 100000 in
set_option maxHeartbeats 4000000 in
theorem holds_0 {k a r p s : Nat} (m : Nat) (W : World) (V : Vld k a r p s) (hm : m ≤ r) (h1k : k ≠ 1) (h2k : k ≠ 2) (h5 : k ≠ 5) (ht : Env W) :
    Calls Tryd.prog 7 #[(.agg #[.int .i64 (k), .int .i64 (a), .int .i64 (r), .int .i64 (p), .int .u64 (s)]), .int .i64 m] W fun e W' => e = .returned (.bool true) ∧ Below W.heap.size W W' := by
  have ck : Box (∀ w, Ext W w → Calls Tryd.prog 10 #[] w fun e w' => e = .returned (.bool true) ∧ Ext w w') := ⟨fun w h => known_any w (ht.ext h)⟩
  have cv : Box _ := ⟨fun w => refValid_any k a r p s w⟩
  rw [vld_of V] at cv
  have cm : Box _ := ⟨fun w => make_any V w⟩
  have cc : Box (∀ ad c w, r ≤ c → CellsAt w ad (u32s (keyL k a r p s) r) → Calls Tryd.prog 16 #[.slice ad r c, .int .i64 a] w fun e w' => ∃ v, e = .returned (.tuple #[v, .int .i64 0]) ∧ Sl w' v a (i64s (cnt (keyL k a r p s) r) a) ∧ Ext w w') := ⟨fun ad c w h1 h2 => (counts_any _ (keyL k a r p s) r a w ⟨ad, c, rfl, by have := V.r2; omega, h1, h2⟩ V.r2 V.a1 V.a2 (fun i hi => by have := keyL_lt V hi; have := V.a2; omega)).mono fun e w' ⟨hx, h⟩ => by
    rcases h with ⟨v, h1, h2, h3⟩ | ⟨h1, i, h2, h3⟩
    · exact ⟨v, h1, h2, hx⟩
    · have := keyL_lt V h2; omega⟩
  have ct : Box (∀ w, Ext W w → _) := ⟨fun w h => gtext_any V w (ht.ext h).tabs⟩
  have cp : Box (∀ w, Ext W w → _) := ⟨fun w h => parse_yes V (text_list k a r p s).symm w (textB_size V) (ht.ext h)⟩
  have cm2 : Box _ := ⟨fun w => make_any (V.fewer m hm h5) w⟩
  rw [u32s_fewer (g := keyL k a r p s) m (fun i => keyL_fewer k a r m p s i h5)] at cm2
  have cs : Box (∀ u v w, Sl w u m (u32s (keyL k a r p s) m) → Sl w v m (u32s (keyL k a r p s) m) → Calls Tryd.prog 14 #[u, v] w fun e w' => e = .returned (.bool true) ∧ Ext w w') := ⟨fun u v w h1 h2 => same_any u v _ _ w h1 h2⟩
  have d5 : ((k : Int) == 5) = false := by simp; omega
  have dk2 : ((k : Int) == 2) = false := by simp; omega
  have dk1 : ((k : Int) == 1) = false := by simp; omega
  have hsum : Box (∀ i, i ≤ a → sumN (cnt (keyL k a r p s) r) i ≤ r) := ⟨fun i hi => by
    have h1 := sumN_mono (cnt (keyL k a r p s) r) hi
    rw [sum_cnt _ a r (fun i hi => keyL_lt V hi)] at h1
    exact h1⟩
  have hend : Box _ := ⟨sum_cnt (keyL k a r p s) a r (fun i hi => keyL_lt V hi)⟩
  have hgr : Box _ := ⟨cnt_le (keyL k a r p s) r⟩
  have h2 := V.a2; have h3 := V.r2; have h4 := V.a1
  have hk6 : k ≤ 6 := by rcases V.k6 with h | h | h | h | h | h <;> omega
  generalize textB k a r p s = y at *
  generalize cnt (keyL k a r p s) r = g at *
  generalize keyL k a r p s = f at *
  have hX : Ext W (W.alloc (.cells #[.int .i64 (k), .int .i64 (a), .int .i64 (r), .int .i64 (p), .int .u64 (s)] 28)) := Ext.alloc (Below.refl _ _) _
  have hB := newblk W (.cells #[.int .i64 (k), .int .i64 (a), .int .i64 (r), .int .i64 (p), .int .u64 (s)] 28)
  obtain ⟨m0, m1, m2, m3, m4⟩ := blk5 hB
  have hg := load_struct.2.2
  have hq := eqL k a r p s
  have f1 : decide ((m : Int) < 0) = false := decide_eq_false (by omega)
  have f2 : decide ((r : Int) < (m : Int)) = false := decide_eq_false (by omega)
  clear ht V h1k h2k h5
  go_enter Tryd.func7, Tryd.ntmps7
  go_wp2_with (first
    | (go_at_call 12; (with_reducible refine (cv.out _).mono ?_); rintro e w1 ⟨rfl, hb⟩; have hX := Ext.trans' hX hb; have hB := Ext.blk hb hB; (try have hu := Box.mk (CellsAt.ext hb hu.out)); (try have hP := Ext.blk hb hP); (try clear m0 m1 m2 m3 m4); obtain ⟨m0, m1, m2, m3, m4⟩ := blk5 hB)
    | (go_at_call 13; (with_reducible refine (cm.out _).mono ?_); rintro e w1 ⟨u, rfl, hu, hb⟩; obtain ⟨ad, c, rfl, hl1, hrc, hu⟩ := hu; replace hu := Box.mk hu; have hX := Ext.trans' hX hb; have hB := Ext.blk hb hB; (try clear m0 m1 m2 m3 m4); obtain ⟨m0, m1, m2, m3, m4⟩ := blk5 hB)
    | (go_at_call 16; (with_reducible refine (cc.out _ _ _ hrc hu.out).mono ?_); rintro e w2 ⟨n, rfl, hn, hb⟩; obtain ⟨ad2, c2, rfl, hl2, hac, hn⟩ := hn; replace hn := Box.mk hn; have hw2 := Ext.trans' hX hb; have hX := Ext.trans' hX hb; have hB := Ext.blk hb hB; (try have hu := Box.mk (CellsAt.ext hb hu.out)); (try have hP := Ext.blk hb hP); (try clear m0 m1 m2 m3 m4); obtain ⟨m0, m1, m2, m3, m4⟩ := blk5 hB))
  go_loopw [9, 10] (fun sm i wr => ∃ t : Nat, t ≤ a ∧ i = .int .i64 t ∧ sm = .int .i64 (sumN g t) ∧ Box (Ext w2 wr)) (fun _ i _ => a - (intOf i).toNat)
  case atStart => exact ⟨0, by omega, rfl, rfl, ⟨Below.refl _ _⟩⟩
  case round =>
    obtain ⟨t, hta, rfl, rfl, hb2⟩ := hrel
    clear m0 m1 m2 m3 m4
    have hX := Ext.trans' hX hb2.out
    have hB := Ext.blk hb2.out hB
    obtain ⟨m0, m1, m2, m3, m4⟩ := blk5 hB
    replace hu := Box.mk (CellsAt.ext hb2.out hu.out)
    replace hn := Box.mk (CellsAt.ext hb2.out hn.out)
    by_cases htn : t < a
    · obtain ⟨b1, o1, rfl, hcell1⟩ := hn.out t _ (i64s_at g htn)
      have hS : Box (sumN g (t + 1) = sumN g t + g t) := ⟨rfl⟩
      have hbd := hsum.out (t + 1) (by omega)
      rw [hS.out] at hbd
      generalize g t = z at *
      generalize sumN g t = S at *
      have u1 : IntKind.i64.wrap ((S : Int) + (z : Int)) = (S : Int) + z := by rw [IntKind.wrap_i64]; omega
      go_wp2
      go_quiet (fail)
      go_wp2
      go_roundw
      case rel => exact ⟨t + 1, by omega, by go_num, by rw [hS.out]; go_num, ⟨Ext.drewN hb2.out _⟩⟩
      case measure => simp [intOf]; omega
    · obtain rfl : a = t := by omega
      have he := hend.out
      rw [he]
      go_wp2_with (first
        | (go_at_call 19; (with_reducible refine (ct.out _ hX).mono ?_); rintro e w3 ⟨rfl, hb⟩; have hX := Ext.trans' hX hb; have hB := Ext.blk hb hB; (try have hu := Box.mk (CellsAt.ext hb hu.out)); (try have hP := Ext.blk hb hP); (try clear m0 m1 m2 m3 m4); obtain ⟨m0, m1, m2, m3, m4⟩ := blk5 hB)
        | (go_at_call 21; (with_reducible refine (cp.out _ hX).mono ?_); rintro e w4 ⟨rfl, hb⟩; have hX := Ext.trans' hX hb; have hB := Ext.blk hb hB; (try have hu := Box.mk (CellsAt.ext hb hu.out)); (try have hP := Ext.blk hb hP); (try clear m0 m1 m2 m3 m4); obtain ⟨m0, m1, m2, m3, m4⟩ := blk5 hB; have hX := Ext.alloc hX (.cells #[.int .i64 (k), .int .i64 (a), .int .i64 (r), .int .i64 (p), .int .u64 (s)] 28); have hB := Ext.blk (Ext.alloc (Below.refl _ _) (.cells #[.int .i64 (k), .int .i64 (a), .int .i64 (r), .int .i64 (p), .int .u64 (s)] 28)) hB; have hP := newblk w4 (.cells #[.int .i64 (k), .int .i64 (a), .int .i64 (r), .int .i64 (p), .int .u64 (s)] 28); (try clear m0 m1 m2 m3 m4); obtain ⟨m0, m1, m2, m3, m4⟩ := blk5 hB; obtain ⟨c0, c1, c2, c3, c4⟩ := blk5 hP; have fz := Lib.frozen_of_heap hB 2)

        | (go_at_call 13; (with_reducible refine (cm2.out _).mono ?_); rintro e w5 ⟨u2, rfl, hu2, hb⟩; have hu := Box.mk (CellsAt.ext hb (CellsAt.keepSet (CellsAt.ext (Ext.alloc (Below.refl _ _) _) hu.out) m2 (u32s_no f r _) _)); have hX := Ext.trans' (Below.setCell hX (p := ⟨W.heap.size, 2, none⟩) (Nat.le_refl _) _) hb; have hs2 : Sl w5 (.slice ad m c) m (u32s f m) := ⟨ad, c, rfl, by omega, by omega, CellsAt.fewer hu.out hm⟩)
        | (go_at_call 14; (with_reducible refine (cs.out _ _ _ hu2 hs2).mono ?_); rintro e w6 ⟨rfl, hb⟩; have hX := Ext.trans' hX hb)
        | (go_at_call 10; (with_reducible refine (ck.out _ hX).mono ?_); rintro e w1 ⟨rfl, hb⟩; have hX := Ext.trans' hX hb))
      go_ret
      exact ⟨rfl, hX⟩
set_option maxRecDepth 100000 in
set_option maxHeartbeats 4000000 in
theorem holds_5 {k a r p s : Nat} (m : Nat) (W : World) (V : Vld k a r p s) (hm : m ≤ r) (h5 : k = 5) (ht : Env W) :
    Calls Tryd.prog 7 #[(.agg #[.int .i64 (k), .int .i64 (a), .int .i64 (r), .int .i64 (p), .int .u64 (s)]), .int .i64 m] W fun e W' => e = .returned (.bool true) ∧ Below W.heap.size W W' := by
  have ck : Box (∀ w, Ext W w → Calls Tryd.prog 10 #[] w fun e w' => e = .returned (.bool true) ∧ Ext w w') := ⟨fun w h => known_any w (ht.ext h)⟩
  have cv : Box _ := ⟨fun w => refValid_any k a r p s w⟩
  rw [vld_of V] at cv
  have cm : Box _ := ⟨fun w => make_any V w⟩
  have cc : Box (∀ ad c w, r ≤ c → CellsAt w ad (u32s (keyL k a r p s) r) → Calls Tryd.prog 16 #[.slice ad r c, .int .i64 a] w fun e w' => ∃ v, e = .returned (.tuple #[v, .int .i64 0]) ∧ Sl w' v a (i64s (cnt (keyL k a r p s) r) a) ∧ Ext w w') := ⟨fun ad c w h1 h2 => (counts_any _ (keyL k a r p s) r a w ⟨ad, c, rfl, by have := V.r2; omega, h1, h2⟩ V.r2 V.a1 V.a2 (fun i hi => by have := keyL_lt V hi; have := V.a2; omega)).mono fun e w' ⟨hx, h⟩ => by
    rcases h with ⟨v, h1, h2, h3⟩ | ⟨h1, i, h2, h3⟩
    · exact ⟨v, h1, h2, hx⟩
    · have := keyL_lt V h2; omega⟩
  have ct : Box (∀ w, Ext W w → _) := ⟨fun w h => gtext_any V w (ht.ext h).tabs⟩
  have cp : Box (∀ w, Ext W w → _) := ⟨fun w h => parse_yes V (text_list k a r p s).symm w (textB_size V) (ht.ext h)⟩
  have d5 : ((k : Int) == 5) = true := by simp; omega
  have dk2 : ((k : Int) == 2) = false := by simp; omega
  have dk1 : ((k : Int) == 1) = false := by simp; omega
  have hsum : Box (∀ i, i ≤ a → sumN (cnt (keyL k a r p s) r) i ≤ r) := ⟨fun i hi => by
    have h1 := sumN_mono (cnt (keyL k a r p s) r) hi
    rw [sum_cnt _ a r (fun i hi => keyL_lt V hi)] at h1
    exact h1⟩
  have hend : Box _ := ⟨sum_cnt (keyL k a r p s) a r (fun i hi => keyL_lt V hi)⟩
  have hgr : Box _ := ⟨cnt_le (keyL k a r p s) r⟩
  have h2 := V.a2; have h3 := V.r2; have h4 := V.a1
  have hk6 : k ≤ 6 := by rcases V.k6 with h | h | h | h | h | h <;> omega
  generalize textB k a r p s = y at *
  generalize cnt (keyL k a r p s) r = g at *
  generalize keyL k a r p s = f at *
  have hX : Ext W (W.alloc (.cells #[.int .i64 (k), .int .i64 (a), .int .i64 (r), .int .i64 (p), .int .u64 (s)] 28)) := Ext.alloc (Below.refl _ _) _
  have hB := newblk W (.cells #[.int .i64 (k), .int .i64 (a), .int .i64 (r), .int .i64 (p), .int .u64 (s)] 28)
  obtain ⟨m0, m1, m2, m3, m4⟩ := blk5 hB
  have hg := load_struct.2.2
  have hq := eqL k a r p s
  have f1 : decide ((m : Int) < 0) = false := decide_eq_false (by omega)
  have f2 : decide ((r : Int) < (m : Int)) = false := decide_eq_false (by omega)
  clear ht V h5
  go_enter Tryd.func7, Tryd.ntmps7
  go_wp2_with (first
    | (go_at_call 12; (with_reducible refine (cv.out _).mono ?_); rintro e w1 ⟨rfl, hb⟩; have hX := Ext.trans' hX hb; have hB := Ext.blk hb hB; (try have hu := Box.mk (CellsAt.ext hb hu.out)); (try have hP := Ext.blk hb hP); (try clear m0 m1 m2 m3 m4); obtain ⟨m0, m1, m2, m3, m4⟩ := blk5 hB)
    | (go_at_call 13; (with_reducible refine (cm.out _).mono ?_); rintro e w1 ⟨u, rfl, hu, hb⟩; obtain ⟨ad, c, rfl, hl1, hrc, hu⟩ := hu; replace hu := Box.mk hu; have hX := Ext.trans' hX hb; have hB := Ext.blk hb hB; (try clear m0 m1 m2 m3 m4); obtain ⟨m0, m1, m2, m3, m4⟩ := blk5 hB)
    | (go_at_call 16; (with_reducible refine (cc.out _ _ _ hrc hu.out).mono ?_); rintro e w2 ⟨n, rfl, hn, hb⟩; obtain ⟨ad2, c2, rfl, hl2, hac, hn⟩ := hn; replace hn := Box.mk hn; have hw2 := Ext.trans' hX hb; have hX := Ext.trans' hX hb; have hB := Ext.blk hb hB; (try have hu := Box.mk (CellsAt.ext hb hu.out)); (try have hP := Ext.blk hb hP); (try clear m0 m1 m2 m3 m4); obtain ⟨m0, m1, m2, m3, m4⟩ := blk5 hB))
  go_loopw [9, 10] (fun sm i wr => ∃ t : Nat, t ≤ a ∧ i = .int .i64 t ∧ sm = .int .i64 (sumN g t) ∧ Box (Ext w2 wr)) (fun _ i _ => a - (intOf i).toNat)
  case atStart => exact ⟨0, by omega, rfl, rfl, ⟨Below.refl _ _⟩⟩
  case round =>
    obtain ⟨t, hta, rfl, rfl, hb2⟩ := hrel
    clear m0 m1 m2 m3 m4
    have hX := Ext.trans' hX hb2.out
    have hB := Ext.blk hb2.out hB
    obtain ⟨m0, m1, m2, m3, m4⟩ := blk5 hB
    replace hu := Box.mk (CellsAt.ext hb2.out hu.out)
    replace hn := Box.mk (CellsAt.ext hb2.out hn.out)
    by_cases htn : t < a
    · obtain ⟨b1, o1, rfl, hcell1⟩ := hn.out t _ (i64s_at g htn)
      have hS : Box (sumN g (t + 1) = sumN g t + g t) := ⟨rfl⟩
      have hbd := hsum.out (t + 1) (by omega)
      rw [hS.out] at hbd
      generalize g t = z at *
      generalize sumN g t = S at *
      have u1 : IntKind.i64.wrap ((S : Int) + (z : Int)) = (S : Int) + z := by rw [IntKind.wrap_i64]; omega
      go_wp2
      go_quiet (fail)
      go_wp2
      go_roundw
      case rel => exact ⟨t + 1, by omega, by go_num, by rw [hS.out]; go_num, ⟨Ext.drewN hb2.out _⟩⟩
      case measure => simp [intOf]; omega
    · obtain rfl : a = t := by omega
      have he := hend.out
      rw [he]
      go_wp2_with (first
        | (go_at_call 19; (with_reducible refine (ct.out _ hX).mono ?_); rintro e w3 ⟨rfl, hb⟩; have hX := Ext.trans' hX hb; have hB := Ext.blk hb hB; (try have hu := Box.mk (CellsAt.ext hb hu.out)); (try have hP := Ext.blk hb hP); (try clear m0 m1 m2 m3 m4); obtain ⟨m0, m1, m2, m3, m4⟩ := blk5 hB)
        | (go_at_call 21; (with_reducible refine (cp.out _ hX).mono ?_); rintro e w4 ⟨rfl, hb⟩; have hX := Ext.trans' hX hb; have hB := Ext.blk hb hB; (try have hu := Box.mk (CellsAt.ext hb hu.out)); (try have hP := Ext.blk hb hP); (try clear m0 m1 m2 m3 m4); obtain ⟨m0, m1, m2, m3, m4⟩ := blk5 hB; have hX := Ext.alloc hX (.cells #[.int .i64 (k), .int .i64 (a), .int .i64 (r), .int .i64 (p), .int .u64 (s)] 28); have hB := Ext.blk (Ext.alloc (Below.refl _ _) (.cells #[.int .i64 (k), .int .i64 (a), .int .i64 (r), .int .i64 (p), .int .u64 (s)] 28)) hB; have hP := newblk w4 (.cells #[.int .i64 (k), .int .i64 (a), .int .i64 (r), .int .i64 (p), .int .u64 (s)] 28); (try clear m0 m1 m2 m3 m4); obtain ⟨m0, m1, m2, m3, m4⟩ := blk5 hB; obtain ⟨c0, c1, c2, c3, c4⟩ := blk5 hP; have fz := Lib.frozen_of_heap hB 2)

        | (go_at_call 10; (with_reducible refine (ck.out _ hX).mono ?_); rintro e w1 ⟨rfl, hb⟩; have hX := Ext.trans' hX hb))
      go_ret
      exact ⟨rfl, hX⟩
theorem lawLoadHolds_walk (v : Value) (m : Int) (W : World) (hv : LoadArg v) (w1 : (Lit.int .i64 m).wf = true) (ht : Env W) :
    Calls Tryd.prog 7 #[v, .int .i64 m] W fun e W' => e = .returned (.bool true) ∧ Below W.heap.size W W' := by
  obtain ⟨k, a, r, p, s, rfl, hs⟩ := hv
  by_cases h : vldL k a r p s = false ∨ m < 0 ∨ r < m
  · exact holds_known k a r p s m W h ht
  · have hv : vldL k a r p s = true := by
      cases e : vldL k a r p s with
      | true => rfl
      | false => exact absurd (.inl e) h
    obtain ⟨k', a', r', p', rfl, rfl, rfl, rfl, V⟩ := vld_int hv hs
    obtain ⟨m', rfl⟩ : ∃ m' : Nat, m = m' := ⟨m.toNat, by omega⟩
    have hm : m' ≤ r' := by omega
    by_cases h1 : k' = 1
    · exact holds_1 m' W V hm h1 ht
    · by_cases h2 : k' = 2
      · exact holds_2 m' W V hm h2 ht
      · by_cases h5 : k' = 5
        · exact holds_5 m' W V hm h5 ht
        · exact holds_0 m' W V hm h1 h2 h5 ht
end Go.Proofs.YthlnhemdhlkhfaaDoor
