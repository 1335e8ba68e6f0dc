import Derived.Test.YtapngkjgagapeaaDoorVQ
/- The walk of EventTexts. -/
namespace Go.Proofs.YtapngkjgagapeaaDoor
open Go.RowKit

set_option maxRecDepth 100000 in
set_option maxHeartbeats 20000000 in
theorem texts_no (k : Int) (k2 kk : Int) (s s2 : ByteArray) (a a2 : Option Addr) (l l2 : List UInt8) (c c2 b b2 d d2 t t2 : Nat) (W : World) (ht : EnvV W)
    (hs : s.size ≤ 300) (hl : l.length ≤ 1000) (hs2 : s2.size ≤ 300) (hl2 : l2.length ≤ 1000) (hb : b < 18446744073709551616) (hd : d < 18446744073709551616) (htt : t < 18446744073709551616)
    (hv : By W (.slice a l.length c) l) (hv2 : By W (.slice a2 l2.length c2) l2) (hy : okV k s.size l.length b d t = false) :
    Calls Tryd.prog 6 #[.agg #[.int .i64 k, .string s, .slice a l.length c, .int .u64 b, .int .u64 d, .int .u64 t], .agg #[.int .i64 k2, .string s2, .slice a2 l2.length c2, .int .u64 b2, .int .u64 d2, .int .u64 t2], .int .i64 kk] W fun e W' => e = .returned (.bool true) ∧ Below W.heap.size W W' := by
  have ck : Box (∀ w, Ext W w → Calls Tryd.prog 11 #[] w fun e w' => e = .returned (.bool true) ∧ Ext w w') := ⟨fun w h => known_any w (ht.ext h)⟩
  have l1 : Box (∀ w, Calls Tryd.prog 22 #[.agg #[.int .i64 k, .string s, .slice a l.length c, .int .u64 b, .int .u64 d, .int .u64 t]] w fun e w' => e = .returned (.bool true) ∧ Ext w w') := ⟨fun w => by
    have h := light_any k s a l.length c b d t w (by omega) (by omega)
    rw [show lightB s.size l.length = true by simp [lightB]; omega] at h
    exact h⟩
  have l2' : Box (∀ w, Calls Tryd.prog 22 #[.agg #[.int .i64 k2, .string s2, .slice a2 l2.length c2, .int .u64 b2, .int .u64 d2, .int .u64 t2]] w fun e w' => e = .returned (.bool true) ∧ Ext w w') := ⟨fun w => by
    have h := light_any k2 s2 a2 l2.length c2 b2 d2 t2 w (by omega) (by omega)
    rw [show lightB s2.size l2.length = true by simp [lightB]; omega] at h
    exact h⟩
  have cC : Box (∀ w, Ext W w → Calls Tryd.prog 23 #[.agg #[.int .i64 k, .string s, .slice a l.length c, .int .u64 b, .int .u64 d, .int .u64 t]] w fun e w' => ∃ a' c', e = .returned (.agg #[.int .i64 k, .string s, .slice a' l.length c', .int .u64 b, .int .u64 d, .int .u64 t]) ∧ By w' (.slice a' l.length c') l ∧ Ext w w') := ⟨fun w h => (rvcopy_any k s a l c b d t w (hv.ext h) (by omega)).mono fun e w' ⟨a', c', h1, h2, h3⟩ => ⟨a', c', h1, h2.by (by omega), h3⟩⟩
  have cV : Box (∀ w, Calls Tryd.prog 14 #[.agg #[.int .i64 k, .string s, .slice a l.length c, .int .u64 b, .int .u64 d, .int .u64 t]] w fun e w' => e = .returned (.bool false) ∧ Ext w w') := ⟨fun w => by
    have h := vvalid_any k s a l.length c b d t w (by omega) (by omega) hb hd htt
    rw [hy] at h; exact h⟩
  have cRV : Box (∀ w, Calls Tryd.prog 24 #[.agg #[.int .i64 k, .string s, .slice a l.length c, .int .u64 b, .int .u64 d, .int .u64 t]] w fun e w' => e = .returned (.bool false) ∧ Ext w w') := ⟨fun w => by
    have h := rvalid_any k s a l.length c b d t w (by omega) (by omega) hd htt
    rw [hy] at h; exact h⟩
  have cW : Box (∀ w, Ext W w → _) := ⟨fun w h => word_any kk w (ht.ext h)⟩
  have cRW : Box (∀ w, _) := ⟨fun w => rword_any kk w⟩
  have cE1 : Box (∀ w, Ext W w → _) := ⟨fun w h => vequal_any k k2 s s2 (.slice a l.length c) (.slice a2 l2.length c2) l l2 b b2 d d2 t t2 w (hv.ext h) (hv2.ext h)⟩
  have cS1 : Box (∀ w, Ext W w → _) := ⟨fun w h => same_any k k2 s s2 (.slice a l.length c) (.slice a2 l2.length c2) l l2 b b2 d d2 t t2 w (hv.ext h) (hv2.ext h)⟩
  have cE2 : Box (∀ a3 c3 w, By w (.slice a3 l.length c3) l → Ext W w → Calls Tryd.prog 27 #[.agg #[.int .i64 k, .string s, .slice a l.length c, .int .u64 b, .int .u64 d, .int .u64 t], .agg #[.int .i64 k, .string s, .slice a3 l.length c3, .int .u64 b, .int .u64 d, .int .u64 t]] w fun e w' => e = .returned (.bool true) ∧ Ext w w') := ⟨fun a3 c3 w h3 h => by
    have h9 := vequal_any k k s s (.slice a l.length c) (.slice a3 l.length c3) l l b b d d t t w (hv.ext h) h3
    rw [eqV_self] at h9; exact h9⟩
  have cX : Box (∀ w, Calls Tryd.prog 15 #[.agg #[.int .i64 k, .string s, .slice a l.length c, .int .u64 b, .int .u64 d, .int .u64 t], .string ⟨#[]⟩, .int .i64 2] w fun e w' => e = .returned (.bool true) ∧ Ext w w') := ⟨fun w => writes_bad k s a l.length c b d t w (by omega) (by omega) hb hd htt hy⟩
  have hx : Ext W ((W.alloc (.cells #[.int .i64 k, .string s, .slice a l.length c, .int .u64 b, .int .u64 d, .int .u64 t] 28)).alloc (.cells #[.int .i64 k2, .string s2, .slice a2 l2.length c2, .int .u64 b2, .int .u64 d2, .int .u64 t2] 28)) := Ext.alloc (Ext.alloc (Below.refl _ _) _) _
  have hA : ((W.alloc (.cells #[.int .i64 k, .string s, .slice a l.length c, .int .u64 b, .int .u64 d, .int .u64 t] 28)).alloc (.cells #[.int .i64 k2, .string s2, .slice a2 l2.length c2, .int .u64 b2, .int .u64 d2, .int .u64 t2] 28)).heap[W.heap.size]? = some (.cells #[.int .i64 k, .string s, .slice a l.length c, .int .u64 b, .int .u64 d, .int .u64 t] 28 (0, 0)) := Ext.blk (Ext.alloc (Below.refl _ _) _) (newblk W _)
  have hB : ((W.alloc (.cells #[.int .i64 k, .string s, .slice a l.length c, .int .u64 b, .int .u64 d, .int .u64 t] 28)).alloc (.cells #[.int .i64 k2, .string s2, .slice a2 l2.length c2, .int .u64 b2, .int .u64 d2, .int .u64 t2] 28)).heap[W.heap.size + 1]? = some (.cells #[.int .i64 k2, .string s2, .slice a2 l2.length c2, .int .u64 b2, .int .u64 d2, .int .u64 t2] 28 (0, 0)) := by
    have h := newblk (W.alloc (.cells #[.int .i64 k, .string s, .slice a l.length c, .int .u64 b, .int .u64 d, .int .u64 t] 28)) (.cells #[.int .i64 k2, .string s2, .slice a2 l2.length c2, .int .u64 b2, .int .u64 d2, .int .u64 t2] 28)
    rw [show (W.alloc (.cells #[.int .i64 k, .string s, .slice a l.length c, .int .u64 b, .int .u64 d, .int .u64 t] 28)).heap.size = W.heap.size + 1 by simp] at h
    exact h
  obtain ⟨m0, m1, m2, m3, m4, m5⟩ := blk6 hA
  obtain ⟨n0, n1, n2, n3, n4, n5⟩ := blk6 hB
  generalize eqV k k2 s s2 l l2 b b2 d d2 t t2 = z at *
  generalize wordI kk = y at *
  clear hv hv2 ht hs hl hs2 hl2 hb hd htt hy
  go_enter Tryd.func6, Tryd.ntmps6
  go_upto_region 4 with (first
    | (go_at_call 22; (with_reducible refine (l1.out _).mono ?_); rintro e w1 ⟨rfl, hb1⟩; have hx := Ext.trans' hx hb1; have hA := Ext.blk hb1 hA; have hB := Ext.blk hb1 hB; clear m0 m1 m2 m3 m4 m5 n0 n1 n2 n3 n4 n5; obtain ⟨m0, m1, m2, m3, m4, m5⟩ := blk6 hA; obtain ⟨n0, n1, n2, n3, n4, n5⟩ := blk6 hB)
    | (go_at_call 22; (with_reducible refine (l2'.out _).mono ?_); rintro e w1 ⟨rfl, hb1⟩; have hx := Ext.trans' hx hb1; have hA := Ext.blk hb1 hA; have hB := Ext.blk hb1 hB; clear m0 m1 m2 m3 m4 m5 n0 n1 n2 n3 n4 n5; obtain ⟨m0, m1, m2, m3, m4, m5⟩ := blk6 hA; obtain ⟨n0, n1, n2, n3, n4, n5⟩ := blk6 hB)
    | (go_at_call 23; (with_reducible refine (cC.out _ hx).mono ?_); rintro e w1 ⟨a3, c3, rfl, hv3, hb1⟩; have hx := Ext.trans' hx hb1; have hA := Ext.blk hb1 hA; have hB := Ext.blk hb1 hB; clear m0 m1 m2 m3 m4 m5 n0 n1 n2 n3 n4 n5; obtain ⟨m0, m1, m2, m3, m4, m5⟩ := blk6 hA; obtain ⟨n0, n1, n2, n3, n4, n5⟩ := blk6 hB))
  obtain ⟨wk, hwk⟩ : ∃ x, x = w1.alloc (.cells #[.int .i64 k, .string s, .slice a3 l.length c3, .int .u64 b, .int .u64 d, .int .u64 t] 28) := ⟨_, rfl⟩
  rw [← hwk]
  have hbk : Ext w1 wk := by rw [hwk]; exact Ext.alloc (Below.refl _ _) _
  have hC : wk.heap[w1.heap.size]? = some (.cells #[.int .i64 k, .string s, .slice a3 l.length c3, .int .u64 b, .int .u64 d, .int .u64 t] 28 (0, 0)) := by rw [hwk]; exact newblk _ _
  have hA := Ext.blk hbk hA
  have hB := Ext.blk hbk hB
  have hv3 := hv3.ext hbk
  have hxk := Ext.trans' hx hbk
  clear hwk hbk hx m0 m1 m2 m3 m4 m5 n0 n1 n2 n3 n4 n5
  have hk : Ext wk wk := Below.refl _ _
  (try clear m0 m1 m2 m3 m4 m5); (try clear n0 n1 n2 n3 n4 n5); (try clear q0 q1 q2 q3 q4 q5); obtain ⟨m0, m1, m2, m3, m4, m5⟩ := blk6 (Ext.blk hk hA); obtain ⟨n0, n1, n2, n3, n4, n5⟩ := blk6 (Ext.blk hk hB); obtain ⟨q0, q1, q2, q3, q4, q5⟩ := blk6 (Ext.blk hk hC)
  refine wp_region_held_drew (S := (fun w' => w'.cell? ⟨W.heap.size, 0, none⟩ = some (.int .i64 k) ∧ w'.cell? ⟨W.heap.size, 1, none⟩ = some (.string s) ∧ w'.cell? ⟨W.heap.size, 2, none⟩ = some (.slice a l.length c) ∧ w'.cell? ⟨W.heap.size, 3, none⟩ = some (.int .u64 b) ∧ w'.cell? ⟨W.heap.size, 4, none⟩ = some (.int .u64 d) ∧ w'.cell? ⟨W.heap.size, 5, none⟩ = some (.int .u64 t) ∧ w'.cell? ⟨W.heap.size + 1, 0, none⟩ = some (.int .i64 k2) ∧ w'.cell? ⟨W.heap.size + 1, 1, none⟩ = some (.string s2) ∧ w'.cell? ⟨W.heap.size + 1, 2, none⟩ = some (.slice a2 l2.length c2) ∧ w'.cell? ⟨W.heap.size + 1, 3, none⟩ = some (.int .u64 b2) ∧ w'.cell? ⟨W.heap.size + 1, 4, none⟩ = some (.int .u64 d2) ∧ w'.cell? ⟨W.heap.size + 1, 5, none⟩ = some (.int .u64 t2) ∧ w'.cell? ⟨w1.heap.size, 0, none⟩ = some (.int .i64 k) ∧ w'.cell? ⟨w1.heap.size, 1, none⟩ = some (.string s) ∧ w'.cell? ⟨w1.heap.size, 2, none⟩ = some (.slice a3 l.length c3) ∧ w'.cell? ⟨w1.heap.size, 3, none⟩ = some (.int .u64 b) ∧ w'.cell? ⟨w1.heap.size, 4, none⟩ = some (.int .u64 d) ∧ w'.cell? ⟨w1.heap.size, 5, none⟩ = some (.int .u64 t))) (by kernel_rfl) ?_ (fun hHeld => ?_)
  · (try dsimp only); (first | go_keep | (exact ⟨m0, m1, m2, m3, m4, m5, n0, n1, n2, n3, n4, n5, q0, q1, q2, q3, q4, q5⟩))
  have hk := Ext.drew1 hk
  refine takeD (i := 0) (d := (some 19)) (v := ?_) rfl (by kernel_rfl) (by kernel_rfl) (by kernel_rfl) (by kernel_rfl) (fun _ _ _ h => h) (Or.inl ⟨by kernel_rfl, ?rgy⟩) (by assumption) ?rgn
  case rgy => (intro w hSw; (try dsimp only at hSw); go_simp; (try with_reducible rfl))
  case rgn =>
    (try simp only [Act.put, List.setIfInBounds_toArray, List.set_cons_zero, List.set_cons_succ])
    refine takeD (i := 2) (d := (some 21)) (v := ?_) rfl (by kernel_rfl) (by kernel_rfl) (by kernel_rfl) (by kernel_rfl) (fun _ _ _ h => h) (Or.inl ⟨by kernel_rfl, ?rgy⟩) (by assumption) ?rgn
    case rgy => (intro w hSw; (try dsimp only at hSw); go_simp; (try with_reducible rfl))
    case rgn =>
      (try simp only [Act.put, List.setIfInBounds_toArray, List.set_cons_zero, List.set_cons_succ])
      refine wpAnyH_ready (rs := [1]) (by kernel_rfl) (by simp) ?_
      refine AllReadyH.cons rfl (fun K hK => ?_) AllReadyH.nil
      go_simp
      (go_at_call 14; (with_reducible refine (cV.out _).mono ?_); rintro e w2 ⟨rfl, hb⟩; have hk := Ext.trans' hk hb; (try clear m0 m1 m2 m3 m4 m5); (try clear n0 n1 n2 n3 n4 n5); (try clear q0 q1 q2 q3 q4 q5); obtain ⟨m0, m1, m2, m3, m4, m5⟩ := blk6 (Ext.blk hk hA); obtain ⟨n0, n1, n2, n3, n4, n5⟩ := blk6 (Ext.blk hk hB); obtain ⟨q0, q1, q2, q3, q4, q5⟩ := blk6 (Ext.blk hk hC))
      (try go_wp2_with fail)
      refine hK.out _ _ ?_ (fun hHeld => ?_)
      · (try dsimp only); (exact ⟨m0, m1, m2, m3, m4, m5, n0, n1, n2, n3, n4, n5, q0, q1, q2, q3, q4, q5⟩)
      clear hK K
      (try simp only [Act.put, List.setIfInBounds_toArray, List.set_cons_zero, List.set_cons_succ])
      refine wpAnyH_ready (rs := [3]) (by kernel_rfl) (by simp) ?_
      refine AllReadyH.cons rfl (fun K hK => ?_) AllReadyH.nil
      go_simp
      (go_at_call 24; (with_reducible refine (cRV.out _).mono ?_); rintro e w2 ⟨rfl, hb⟩; have hk := Ext.trans' hk hb; (try clear m0 m1 m2 m3 m4 m5); (try clear n0 n1 n2 n3 n4 n5); (try clear q0 q1 q2 q3 q4 q5); obtain ⟨m0, m1, m2, m3, m4, m5⟩ := blk6 (Ext.blk hk hA); obtain ⟨n0, n1, n2, n3, n4, n5⟩ := blk6 (Ext.blk hk hB); obtain ⟨q0, q1, q2, q3, q4, q5⟩ := blk6 (Ext.blk hk hC))
      (try go_wp2_with fail)
      refine hK.out _ _ ?_ (fun hHeld => ?_)
      · (try dsimp only); (exact ⟨m0, m1, m2, m3, m4, m5, n0, n1, n2, n3, n4, n5, q0, q1, q2, q3, q4, q5⟩)
      clear hK K
      (try simp only [Act.put, List.setIfInBounds_toArray, List.set_cons_zero, List.set_cons_succ])
      refine takeD (i := 4) (d := (some 23)) (v := ?_) rfl (by kernel_rfl) (by kernel_rfl) (by kernel_rfl) (by kernel_rfl) (fun _ _ _ h => h) (Or.inl ⟨by kernel_rfl, ?rgy⟩) (by assumption) ?rgn
      case rgy => (intro w hSw; (try dsimp only at hSw); go_simp; (try with_reducible rfl))
      case rgn =>
        (try simp only [Act.put, List.setIfInBounds_toArray, List.set_cons_zero, List.set_cons_succ])
        refine takeD (i := 5) (d := (some 24)) (v := ?_) rfl (by kernel_rfl) (by kernel_rfl) (by kernel_rfl) (by kernel_rfl) (fun _ _ _ h => h) (Or.inl ⟨by kernel_rfl, ?rgy⟩) (by assumption) ?rgn
        case rgy => (intro w hSw; (try dsimp only at hSw); go_simp; (try with_reducible rfl))
        case rgn =>
          (try simp only [Act.put, List.setIfInBounds_toArray, List.set_cons_zero, List.set_cons_succ])
          refine takeD (i := 6) (d := (some 25)) (v := ?_) rfl (by kernel_rfl) (by kernel_rfl) (by kernel_rfl) (by kernel_rfl) (fun _ _ _ h => h) (Or.inl ⟨by kernel_rfl, ?rgy⟩) (by assumption) ?rgn
          case rgy => (intro w hSw; (try dsimp only at hSw); go_simp; (try with_reducible rfl))
          case rgn =>
            (try simp only [Act.put, List.setIfInBounds_toArray, List.set_cons_zero, List.set_cons_succ])
            refine takeD (i := 8) (d := (some 27)) (v := ?_) rfl (by kernel_rfl) (by kernel_rfl) (by kernel_rfl) (by kernel_rfl) (fun _ _ _ h => h) (Or.inl ⟨by kernel_rfl, ?rgy⟩) (by assumption) ?rgn
            case rgy => (intro w hSw; (try dsimp only at hSw); go_simp; (try with_reducible rfl))
            case rgn =>
              (try simp only [Act.put, List.setIfInBounds_toArray, List.set_cons_zero, List.set_cons_succ])
              refine wpAnyH_ready (rs := [7]) (by kernel_rfl) (by simp) ?_
              refine AllReadyH.cons rfl (fun K hK => ?_) AllReadyH.nil
              go_simp
              (go_at_call 25; (with_reducible refine (cW.out _ (Ext.trans' hxk hk)).mono ?_); rintro e w' ⟨rfl, rfl⟩)
              (try go_wp2_with fail)
              refine hK.out _ _ ?_ (fun hHeld => ?_)
              · (try dsimp only); (exact ⟨m0, m1, m2, m3, m4, m5, n0, n1, n2, n3, n4, n5, q0, q1, q2, q3, q4, q5⟩)
              clear hK K
              (try simp only [Act.put, List.setIfInBounds_toArray, List.set_cons_zero, List.set_cons_succ])
              refine wpAnyH_ready (rs := [9]) (by kernel_rfl) (by simp) ?_
              refine AllReadyH.cons rfl (fun K hK => ?_) AllReadyH.nil
              go_simp
              (go_at_call 26; (with_reducible refine (cRW.out _).mono ?_); rintro e w2 ⟨rfl, hb⟩; have hk := Ext.trans' hk hb; (try clear m0 m1 m2 m3 m4 m5); (try clear n0 n1 n2 n3 n4 n5); (try clear q0 q1 q2 q3 q4 q5); obtain ⟨m0, m1, m2, m3, m4, m5⟩ := blk6 (Ext.blk hk hA); obtain ⟨n0, n1, n2, n3, n4, n5⟩ := blk6 (Ext.blk hk hB); obtain ⟨q0, q1, q2, q3, q4, q5⟩ := blk6 (Ext.blk hk hC))
              (try go_wp2_with fail)
              refine hK.out _ _ ?_ (fun hHeld => ?_)
              · (try dsimp only); (exact ⟨m0, m1, m2, m3, m4, m5, n0, n1, n2, n3, n4, n5, q0, q1, q2, q3, q4, q5⟩)
              clear hK K
              (try simp only [Act.put, List.setIfInBounds_toArray, List.set_cons_zero, List.set_cons_succ])
              refine takeD (i := 10) (d := (some 29)) (v := ?_) rfl (by kernel_rfl) (by kernel_rfl) (by kernel_rfl) (by kernel_rfl) (fun _ _ _ h => h) (Or.inl ⟨by kernel_rfl, ?rgy⟩) (by assumption) ?rgn
              case rgy => (intro w hSw; (try dsimp only at hSw); go_simp; (try with_reducible rfl))
              case rgn =>
                (try simp only [Act.put, List.setIfInBounds_toArray, List.set_cons_zero, List.set_cons_succ])
                refine takeD (i := 11) (d := (some 30)) (v := ?_) rfl (by kernel_rfl) (by kernel_rfl) (by kernel_rfl) (by kernel_rfl) (fun _ _ _ h => h) (Or.inl ⟨by kernel_rfl, ?rgy⟩) (by assumption) ?rgn
                case rgy => (intro w hSw; (try dsimp only at hSw); go_simp; (try with_reducible rfl))
                case rgn =>
                  (try simp only [Act.put, List.setIfInBounds_toArray, List.set_cons_zero, List.set_cons_succ])
                  refine takeD (i := 12) (d := (some 31)) (v := ?_) rfl (by kernel_rfl) (by kernel_rfl) (by kernel_rfl) (by kernel_rfl) (fun _ _ _ h => h) (Or.inl ⟨by kernel_rfl, ?rgy⟩) (by assumption) ?rgn
                  case rgy => (intro w hSw; (try dsimp only at hSw); go_simp; (try with_reducible rfl))
                  case rgn =>
                    (try simp only [Act.put, List.setIfInBounds_toArray, List.set_cons_zero, List.set_cons_succ])
                    refine takeD (i := 13) (d := (some 32)) (v := ?_) rfl (by kernel_rfl) (by kernel_rfl) (by kernel_rfl) (by kernel_rfl) (fun _ _ _ h => h) (Or.inl ⟨by kernel_rfl, ?rgy⟩) (by assumption) ?rgn
                    case rgy => (intro w hSw; (try dsimp only at hSw); go_simp; (try with_reducible rfl))
                    case rgn =>
                      (try simp only [Act.put, List.setIfInBounds_toArray, List.set_cons_zero, List.set_cons_succ])
                      refine takeD (i := 14) (d := (some 33)) (v := ?_) rfl (by kernel_rfl) (by kernel_rfl) (by kernel_rfl) (by kernel_rfl) (fun _ _ _ h => h) (Or.inl ⟨by kernel_rfl, ?rgy⟩) (by assumption) ?rgn
                      case rgy => (intro w hSw; (try dsimp only at hSw); go_simp; (try with_reducible rfl))
                      case rgn =>
                        (try simp only [Act.put, List.setIfInBounds_toArray, List.set_cons_zero, List.set_cons_succ])
                        refine takeD (i := 16) (d := (some 35)) (v := ?_) rfl (by kernel_rfl) (by kernel_rfl) (by kernel_rfl) (by kernel_rfl) (fun _ _ _ h => h) (Or.inl ⟨by kernel_rfl, ?rgy⟩) (by assumption) ?rgn
                        case rgy => (intro w hSw; (try dsimp only at hSw); go_simp; (try with_reducible rfl))
                        case rgn =>
                          (try simp only [Act.put, List.setIfInBounds_toArray, List.set_cons_zero, List.set_cons_succ])
                          refine takeD (i := 17) (d := (some 36)) (v := ?_) rfl (by kernel_rfl) (by kernel_rfl) (by kernel_rfl) (by kernel_rfl) (fun _ _ _ h => h) (Or.inl ⟨by kernel_rfl, ?rgy⟩) (by assumption) ?rgn
                          case rgy => (intro w hSw; (try dsimp only at hSw); go_simp; (try with_reducible rfl))
                          case rgn =>
                            (try simp only [Act.put, List.setIfInBounds_toArray, List.set_cons_zero, List.set_cons_succ])
                            refine wpAnyH_ready (rs := [15]) (by kernel_rfl) (by simp) ?_
                            refine AllReadyH.cons rfl (fun K hK => ?_) AllReadyH.nil
                            go_simp
                            (go_at_call 27; (with_reducible refine (cE1.out _ (Ext.trans' hxk hk)).mono ?_); rintro e w2 ⟨rfl, hb⟩; have hk := Ext.trans' hk hb; (try clear m0 m1 m2 m3 m4 m5); (try clear n0 n1 n2 n3 n4 n5); (try clear q0 q1 q2 q3 q4 q5); obtain ⟨m0, m1, m2, m3, m4, m5⟩ := blk6 (Ext.blk hk hA); obtain ⟨n0, n1, n2, n3, n4, n5⟩ := blk6 (Ext.blk hk hB); obtain ⟨q0, q1, q2, q3, q4, q5⟩ := blk6 (Ext.blk hk hC))
                            (try go_wp2_with fail)
                            refine hK.out _ _ ?_ (fun hHeld => ?_)
                            · (try dsimp only); (exact ⟨m0, m1, m2, m3, m4, m5, n0, n1, n2, n3, n4, n5, q0, q1, q2, q3, q4, q5⟩)
                            clear hK K
                            (try simp only [Act.put, List.setIfInBounds_toArray, List.set_cons_zero, List.set_cons_succ])
                            refine wpAnyH_ready (rs := [18]) (by kernel_rfl) (by simp) ?_
                            refine AllReadyH.cons rfl (fun K hK => ?_) AllReadyH.nil
                            go_simp
                            (go_at_call 28; (with_reducible refine (cS1.out _ (Ext.trans' hxk hk)).mono ?_); rintro e w2 ⟨rfl, hb⟩; have hk := Ext.trans' hk hb; (try clear m0 m1 m2 m3 m4 m5); (try clear n0 n1 n2 n3 n4 n5); (try clear q0 q1 q2 q3 q4 q5); obtain ⟨m0, m1, m2, m3, m4, m5⟩ := blk6 (Ext.blk hk hA); obtain ⟨n0, n1, n2, n3, n4, n5⟩ := blk6 (Ext.blk hk hB); obtain ⟨q0, q1, q2, q3, q4, q5⟩ := blk6 (Ext.blk hk hC))
                            (try go_wp2_with fail)
                            refine hK.out _ _ ?_ (fun hHeld => ?_)
                            · (try dsimp only); (exact ⟨m0, m1, m2, m3, m4, m5, n0, n1, n2, n3, n4, n5, q0, q1, q2, q3, q4, q5⟩)
                            clear hK K
                            (try simp only [Act.put, List.setIfInBounds_toArray, List.set_cons_zero, List.set_cons_succ])
                            refine takeD (i := 19) (d := (some 38)) (v := ?_) rfl (by kernel_rfl) (by kernel_rfl) (by kernel_rfl) (by kernel_rfl) (fun _ _ _ h => h) (Or.inl ⟨by kernel_rfl, ?rgy⟩) (by assumption) ?rgn
                            case rgy => (intro w hSw; (try dsimp only at hSw); go_simp; (try with_reducible rfl))
                            case rgn =>
                              (try simp only [Act.put, List.setIfInBounds_toArray, List.set_cons_zero, List.set_cons_succ])
                              refine takeD (i := 20) (d := (some 39)) (v := ?_) rfl (by kernel_rfl) (by kernel_rfl) (by kernel_rfl) (by kernel_rfl) (fun _ _ _ h => h) (Or.inl ⟨by kernel_rfl, ?rgy⟩) (by assumption) ?rgn
                              case rgy => (intro w hSw; (try dsimp only at hSw); go_simp; (try with_reducible rfl))
                              case rgn =>
                                (try simp only [Act.put, List.setIfInBounds_toArray, List.set_cons_zero, List.set_cons_succ])
                                refine takeD (i := 21) (d := (some 40)) (v := ?_) rfl (by kernel_rfl) (by kernel_rfl) (by kernel_rfl) (by kernel_rfl) (fun _ _ _ h => h) (Or.inl ⟨by kernel_rfl, ?rgy⟩) (by assumption) ?rgn
                                case rgy => (intro w hSw; (try dsimp only at hSw); go_simp; (try with_reducible rfl))
                                case rgn =>
                                  (try simp only [Act.put, List.setIfInBounds_toArray, List.set_cons_zero, List.set_cons_succ])
                                  refine takeD (i := 22) (d := (some 41)) (v := ?_) rfl (by kernel_rfl) (by kernel_rfl) (by kernel_rfl) (by kernel_rfl) (fun _ _ _ h => h) (Or.inl ⟨by kernel_rfl, ?rgy⟩) (by assumption) ?rgn
                                  case rgy => (intro w hSw; (try dsimp only at hSw); go_simp; (try with_reducible rfl))
                                  case rgn =>
                                    (try simp only [Act.put, List.setIfInBounds_toArray, List.set_cons_zero, List.set_cons_succ])
                                    refine takeD (i := 23) (d := (some 42)) (v := ?_) rfl (by kernel_rfl) (by kernel_rfl) (by kernel_rfl) (by kernel_rfl) (fun _ _ _ h => h) (Or.inl ⟨by kernel_rfl, ?rgy⟩) (by assumption) ?rgn
                                    case rgy => (intro w hSw; (try dsimp only at hSw); go_simp; (try with_reducible rfl))
                                    case rgn =>
                                      (try simp only [Act.put, List.setIfInBounds_toArray, List.set_cons_zero, List.set_cons_succ])
                                      refine wpAnyH_ready (rs := [24]) (by kernel_rfl) (by simp) ?_
                                      refine AllReadyH.cons rfl (fun K hK => ?_) AllReadyH.nil
                                      go_simp
                                      (go_at_call 27; (with_reducible refine (cE2.out _ _ _ (hv3.ext hk) (Ext.trans' hxk hk)).mono ?_); rintro e w2 ⟨rfl, hb⟩; have hk := Ext.trans' hk hb; (try clear m0 m1 m2 m3 m4 m5); (try clear n0 n1 n2 n3 n4 n5); (try clear q0 q1 q2 q3 q4 q5); obtain ⟨m0, m1, m2, m3, m4, m5⟩ := blk6 (Ext.blk hk hA); obtain ⟨n0, n1, n2, n3, n4, n5⟩ := blk6 (Ext.blk hk hB); obtain ⟨q0, q1, q2, q3, q4, q5⟩ := blk6 (Ext.blk hk hC))
                                      (try go_wp2_with fail)
                                      refine hK.out _ _ ?_ (fun hHeld => ?_)
                                      · (try dsimp only); (exact ⟨m0, m1, m2, m3, m4, m5, n0, n1, n2, n3, n4, n5, q0, q1, q2, q3, q4, q5⟩)
                                      clear hK K
                                      (try simp only [Act.put, List.setIfInBounds_toArray, List.set_cons_zero, List.set_cons_succ])
                                      refine takeD (i := 25) (d := (some 44)) (v := ?_) rfl (by kernel_rfl) (by kernel_rfl) (by kernel_rfl) (by kernel_rfl) (fun _ _ _ h => h) (Or.inl ⟨by kernel_rfl, ?rgy⟩) (by assumption) ?rgn
                                      case rgy => (intro w hSw; (try dsimp only at hSw); go_simp; (try with_reducible rfl))
                                      case rgn =>
                                        (try simp only [Act.put, List.setIfInBounds_toArray, List.set_cons_zero, List.set_cons_succ])
                                        refine takeD (i := 26) (d := (some 45)) (v := ?_) rfl (by kernel_rfl) (by kernel_rfl) (by kernel_rfl) (by kernel_rfl) (fun _ _ _ h => h) (Or.inl ⟨by kernel_rfl, ?rgy⟩) (by assumption) ?rgn
                                        case rgy => (intro w hSw; (try dsimp only at hSw); go_simp; (try with_reducible rfl))
                                        case rgn =>
                                          (try simp only [Act.put, List.setIfInBounds_toArray, List.set_cons_zero, List.set_cons_succ])
                                          refine wpAnyH_done (by kernel_rfl) ?_ _
                                          go_wp2_with (first
                                            | (go_at_call 24; (with_reducible refine (cRV.out _).mono ?_); rintro e w2 ⟨rfl, hb⟩; have hk := Ext.trans' hk hb; (try clear m0 m1 m2 m3 m4 m5); (try clear n0 n1 n2 n3 n4 n5); (try clear q0 q1 q2 q3 q4 q5); obtain ⟨m0, m1, m2, m3, m4, m5⟩ := blk6 (Ext.blk hk hA); obtain ⟨n0, n1, n2, n3, n4, n5⟩ := blk6 (Ext.blk hk hB); obtain ⟨q0, q1, q2, q3, q4, q5⟩ := blk6 (Ext.blk hk hC))
                                            | (go_at_call 15; (with_reducible refine (cX.out _).mono ?_); rintro e w2 ⟨rfl, hb⟩; have hk := Ext.trans' hk hb; (try clear m0 m1 m2 m3 m4 m5); (try clear n0 n1 n2 n3 n4 n5); (try clear q0 q1 q2 q3 q4 q5); obtain ⟨m0, m1, m2, m3, m4, m5⟩ := blk6 (Ext.blk hk hA); obtain ⟨n0, n1, n2, n3, n4, n5⟩ := blk6 (Ext.blk hk hB); obtain ⟨q0, q1, q2, q3, q4, q5⟩ := blk6 (Ext.blk hk hC))
                                            | (go_at_call 11; (with_reducible refine (ck.out _ (Ext.trans' hxk hk)).mono ?_); rintro e w2 ⟨rfl, hb⟩; have hk := Ext.trans' hk hb))
                                          go_ret
                                          exact ⟨rfl, Ext.trans' hxk hk⟩
set_option maxRecDepth 100000 in
set_option maxHeartbeats 20000000 in
theorem texts_yes (j : Nat) (k2 kk : Int) (s s2 : ByteArray) (a a2 : Option Addr) (l l2 : List UInt8) (c c2 b b2 d d2 t t2 : Nat) (W : World) (ht : EnvV W)
    (hs : s.size ≤ 300) (hl : l.length ≤ 1000) (hs2 : s2.size ≤ 300) (hl2 : l2.length ≤ 1000) (hb : b < 18446744073709551616) (hd : d < 18446744073709551616) (htt : t < 18446744073709551616)
    (hv : By W (.slice a l.length c) l) (hv2 : By W (.slice a2 l2.length c2) l2) (hy : okV (j : Int) s.size l.length b d t = true) (h1 : 1 ≤ j) (h5 : j ≤ 5) :
    Calls Tryd.prog 6 #[.agg #[.int .i64 (j : Int), .string s, .slice a l.length c, .int .u64 b, .int .u64 d, .int .u64 t], .agg #[.int .i64 k2, .string s2, .slice a2 l2.length c2, .int .u64 b2, .int .u64 d2, .int .u64 t2], .int .i64 kk] W fun e W' => e = .returned (.bool true) ∧ Below W.heap.size W W' := by
  have ck : Box (∀ w, Ext W w → Calls Tryd.prog 11 #[] w fun e w' => e = .returned (.bool true) ∧ Ext w w') := ⟨fun w h => known_any w (ht.ext h)⟩
  have l1 : Box (∀ w, Calls Tryd.prog 22 #[.agg #[.int .i64 (j : Int), .string s, .slice a l.length c, .int .u64 b, .int .u64 d, .int .u64 t]] w fun e w' => e = .returned (.bool true) ∧ Ext w w') := ⟨fun w => by
    have h := light_any (j : Int) s a l.length c b d t w (by omega) (by omega)
    rw [show lightB s.size l.length = true by simp [lightB]; omega] at h
    exact h⟩
  have l2' : Box (∀ w, Calls Tryd.prog 22 #[.agg #[.int .i64 k2, .string s2, .slice a2 l2.length c2, .int .u64 b2, .int .u64 d2, .int .u64 t2]] w fun e w' => e = .returned (.bool true) ∧ Ext w w') := ⟨fun w => by
    have h := light_any k2 s2 a2 l2.length c2 b2 d2 t2 w (by omega) (by omega)
    rw [show lightB s2.size l2.length = true by simp [lightB]; omega] at h
    exact h⟩
  have cC : Box (∀ w, Ext W w → Calls Tryd.prog 23 #[.agg #[.int .i64 (j : Int), .string s, .slice a l.length c, .int .u64 b, .int .u64 d, .int .u64 t]] w fun e w' => ∃ a' c', e = .returned (.agg #[.int .i64 (j : Int), .string s, .slice a' l.length c', .int .u64 b, .int .u64 d, .int .u64 t]) ∧ By w' (.slice a' l.length c') l ∧ Ext w w') := ⟨fun w h => (rvcopy_any (j : Int) s a l c b d t w (hv.ext h) (by omega)).mono fun e w' ⟨a', c', h1, h2, h3⟩ => ⟨a', c', h1, h2.by (by omega), h3⟩⟩
  have cV : Box (∀ w, Calls Tryd.prog 14 #[.agg #[.int .i64 (j : Int), .string s, .slice a l.length c, .int .u64 b, .int .u64 d, .int .u64 t]] w fun e w' => e = .returned (.bool true) ∧ Ext w w') := ⟨fun w => by
    have h := vvalid_any (j : Int) s a l.length c b d t w (by omega) (by omega) hb hd htt
    rw [hy] at h; exact h⟩
  have cRV : Box (∀ w, Calls Tryd.prog 24 #[.agg #[.int .i64 (j : Int), .string s, .slice a l.length c, .int .u64 b, .int .u64 d, .int .u64 t]] w fun e w' => e = .returned (.bool true) ∧ Ext w w') := ⟨fun w => by
    have h := rvalid_any (j : Int) s a l.length c b d t w (by omega) (by omega) hd htt
    rw [hy] at h; exact h⟩
  have cW : Box (∀ w, Ext W w → _) := ⟨fun w h => word_any kk w (ht.ext h)⟩
  have cRW : Box (∀ w, _) := ⟨fun w => rword_any kk w⟩
  have cE1 : Box (∀ w, Ext W w → _) := ⟨fun w h => vequal_any (j : Int) k2 s s2 (.slice a l.length c) (.slice a2 l2.length c2) l l2 b b2 d d2 t t2 w (hv.ext h) (hv2.ext h)⟩
  have cS1 : Box (∀ w, Ext W w → _) := ⟨fun w h => same_any (j : Int) k2 s s2 (.slice a l.length c) (.slice a2 l2.length c2) l l2 b b2 d d2 t t2 w (hv.ext h) (hv2.ext h)⟩
  have cE2 : Box (∀ a3 c3 w, By w (.slice a3 l.length c3) l → Ext W w → Calls Tryd.prog 27 #[.agg #[.int .i64 (j : Int), .string s, .slice a l.length c, .int .u64 b, .int .u64 d, .int .u64 t], .agg #[.int .i64 (j : Int), .string s, .slice a3 l.length c3, .int .u64 b, .int .u64 d, .int .u64 t]] w fun e w' => e = .returned (.bool true) ∧ Ext w w') := ⟨fun a3 c3 w h3 h => by
    have h9 := vequal_any (j : Int) (j : Int) s s (.slice a l.length c) (.slice a3 l.length c3) l l b b d d t t w (hv.ext h) h3
    rw [eqV_self] at h9; exact h9⟩
  have cT : Box (∀ w, Ext W w → Calls Tryd.prog 18 #[.agg #[.int .i64 (j : Int), .string s, .slice a l.length c, .int .u64 b, .int .u64 d, .int .u64 t]] w fun e w' => e = .returned (.string ⟨(Evt.text ⟨j, ⟨s.data.toList, l, d, b⟩, t⟩).toArray⟩) ∧ Ext w w') := ⟨fun w h => rvtext_any j s a l c b d t w h1 h5 (by omega) (by omega) hb hd htt (hv.ext h)⟩
  have cX : Box (∀ w, Ext W w → Calls Tryd.prog 15 #[.agg #[.int .i64 (j : Int), .string s, .slice a l.length c, .int .u64 b, .int .u64 d, .int .u64 t], .string ⟨(Evt.text ⟨j, ⟨s.data.toList, l, d, b⟩, t⟩).toArray⟩, .int .i64 0] w fun e w' => e = .returned (.bool true) ∧ Ext w w') := ⟨fun w h => writes_ok (j : Int) s a l c b d t _ w (by omega) (by omega) hb hd htt hy (hv.ext h) (ht.ext h) (by simp)⟩
  generalize (⟨(Evt.text ⟨j, ⟨s.data.toList, l, d, b⟩, t⟩).toArray⟩ : ByteArray) = tx at *
  have hx : Ext W ((W.alloc (.cells #[.int .i64 (j : Int), .string s, .slice a l.length c, .int .u64 b, .int .u64 d, .int .u64 t] 28)).alloc (.cells #[.int .i64 k2, .string s2, .slice a2 l2.length c2, .int .u64 b2, .int .u64 d2, .int .u64 t2] 28)) := Ext.alloc (Ext.alloc (Below.refl _ _) _) _
  have hA : ((W.alloc (.cells #[.int .i64 (j : Int), .string s, .slice a l.length c, .int .u64 b, .int .u64 d, .int .u64 t] 28)).alloc (.cells #[.int .i64 k2, .string s2, .slice a2 l2.length c2, .int .u64 b2, .int .u64 d2, .int .u64 t2] 28)).heap[W.heap.size]? = some (.cells #[.int .i64 (j : Int), .string s, .slice a l.length c, .int .u64 b, .int .u64 d, .int .u64 t] 28 (0, 0)) := Ext.blk (Ext.alloc (Below.refl _ _) _) (newblk W _)
  have hB : ((W.alloc (.cells #[.int .i64 (j : Int), .string s, .slice a l.length c, .int .u64 b, .int .u64 d, .int .u64 t] 28)).alloc (.cells #[.int .i64 k2, .string s2, .slice a2 l2.length c2, .int .u64 b2, .int .u64 d2, .int .u64 t2] 28)).heap[W.heap.size + 1]? = some (.cells #[.int .i64 k2, .string s2, .slice a2 l2.length c2, .int .u64 b2, .int .u64 d2, .int .u64 t2] 28 (0, 0)) := by
    have h := newblk (W.alloc (.cells #[.int .i64 (j : Int), .string s, .slice a l.length c, .int .u64 b, .int .u64 d, .int .u64 t] 28)) (.cells #[.int .i64 k2, .string s2, .slice a2 l2.length c2, .int .u64 b2, .int .u64 d2, .int .u64 t2] 28)
    rw [show (W.alloc (.cells #[.int .i64 (j : Int), .string s, .slice a l.length c, .int .u64 b, .int .u64 d, .int .u64 t] 28)).heap.size = W.heap.size + 1 by simp] at h
    exact h
  obtain ⟨m0, m1, m2, m3, m4, m5⟩ := blk6 hA
  obtain ⟨n0, n1, n2, n3, n4, n5⟩ := blk6 hB
  generalize eqV (j : Int) k2 s s2 l l2 b b2 d d2 t t2 = z at *
  generalize wordI kk = y at *
  clear hv hv2 ht hs hl hs2 hl2 hb hd htt hy h1 h5
  go_enter Tryd.func6, Tryd.ntmps6
  go_upto_region 4 with (first
    | (go_at_call 22; (with_reducible refine (l1.out _).mono ?_); rintro e w1 ⟨rfl, hb1⟩; have hx := Ext.trans' hx hb1; have hA := Ext.blk hb1 hA; have hB := Ext.blk hb1 hB; clear m0 m1 m2 m3 m4 m5 n0 n1 n2 n3 n4 n5; obtain ⟨m0, m1, m2, m3, m4, m5⟩ := blk6 hA; obtain ⟨n0, n1, n2, n3, n4, n5⟩ := blk6 hB)
    | (go_at_call 22; (with_reducible refine (l2'.out _).mono ?_); rintro e w1 ⟨rfl, hb1⟩; have hx := Ext.trans' hx hb1; have hA := Ext.blk hb1 hA; have hB := Ext.blk hb1 hB; clear m0 m1 m2 m3 m4 m5 n0 n1 n2 n3 n4 n5; obtain ⟨m0, m1, m2, m3, m4, m5⟩ := blk6 hA; obtain ⟨n0, n1, n2, n3, n4, n5⟩ := blk6 hB)
    | (go_at_call 23; (with_reducible refine (cC.out _ hx).mono ?_); rintro e w1 ⟨a3, c3, rfl, hv3, hb1⟩; have hx := Ext.trans' hx hb1; have hA := Ext.blk hb1 hA; have hB := Ext.blk hb1 hB; clear m0 m1 m2 m3 m4 m5 n0 n1 n2 n3 n4 n5; obtain ⟨m0, m1, m2, m3, m4, m5⟩ := blk6 hA; obtain ⟨n0, n1, n2, n3, n4, n5⟩ := blk6 hB))
  obtain ⟨wk, hwk⟩ : ∃ x, x = w1.alloc (.cells #[.int .i64 (j : Int), .string s, .slice a3 l.length c3, .int .u64 b, .int .u64 d, .int .u64 t] 28) := ⟨_, rfl⟩
  rw [← hwk]
  have hbk : Ext w1 wk := by rw [hwk]; exact Ext.alloc (Below.refl _ _) _
  have hC : wk.heap[w1.heap.size]? = some (.cells #[.int .i64 (j : Int), .string s, .slice a3 l.length c3, .int .u64 b, .int .u64 d, .int .u64 t] 28 (0, 0)) := by rw [hwk]; exact newblk _ _
  have hA := Ext.blk hbk hA
  have hB := Ext.blk hbk hB
  have hv3 := hv3.ext hbk
  have hxk := Ext.trans' hx hbk
  clear hwk hbk hx m0 m1 m2 m3 m4 m5 n0 n1 n2 n3 n4 n5
  have hk : Ext wk wk := Below.refl _ _
  (try clear m0 m1 m2 m3 m4 m5); (try clear n0 n1 n2 n3 n4 n5); (try clear q0 q1 q2 q3 q4 q5); obtain ⟨m0, m1, m2, m3, m4, m5⟩ := blk6 (Ext.blk hk hA); obtain ⟨n0, n1, n2, n3, n4, n5⟩ := blk6 (Ext.blk hk hB); obtain ⟨q0, q1, q2, q3, q4, q5⟩ := blk6 (Ext.blk hk hC)
  refine wp_region_held_drew (S := (fun w' => w'.cell? ⟨W.heap.size, 0, none⟩ = some (.int .i64 (j : Int)) ∧ w'.cell? ⟨W.heap.size, 1, none⟩ = some (.string s) ∧ w'.cell? ⟨W.heap.size, 2, none⟩ = some (.slice a l.length c) ∧ w'.cell? ⟨W.heap.size, 3, none⟩ = some (.int .u64 b) ∧ w'.cell? ⟨W.heap.size, 4, none⟩ = some (.int .u64 d) ∧ w'.cell? ⟨W.heap.size, 5, none⟩ = some (.int .u64 t) ∧ w'.cell? ⟨W.heap.size + 1, 0, none⟩ = some (.int .i64 k2) ∧ w'.cell? ⟨W.heap.size + 1, 1, none⟩ = some (.string s2) ∧ w'.cell? ⟨W.heap.size + 1, 2, none⟩ = some (.slice a2 l2.length c2) ∧ w'.cell? ⟨W.heap.size + 1, 3, none⟩ = some (.int .u64 b2) ∧ w'.cell? ⟨W.heap.size + 1, 4, none⟩ = some (.int .u64 d2) ∧ w'.cell? ⟨W.heap.size + 1, 5, none⟩ = some (.int .u64 t2) ∧ w'.cell? ⟨w1.heap.size, 0, none⟩ = some (.int .i64 (j : Int)) ∧ w'.cell? ⟨w1.heap.size, 1, none⟩ = some (.string s) ∧ w'.cell? ⟨w1.heap.size, 2, none⟩ = some (.slice a3 l.length c3) ∧ w'.cell? ⟨w1.heap.size, 3, none⟩ = some (.int .u64 b) ∧ w'.cell? ⟨w1.heap.size, 4, none⟩ = some (.int .u64 d) ∧ w'.cell? ⟨w1.heap.size, 5, none⟩ = some (.int .u64 t))) (by kernel_rfl) ?_ (fun hHeld => ?_)
  · (try dsimp only); (first | go_keep | (exact ⟨m0, m1, m2, m3, m4, m5, n0, n1, n2, n3, n4, n5, q0, q1, q2, q3, q4, q5⟩))
  have hk := Ext.drew1 hk
  refine takeD (i := 0) (d := (some 19)) (v := ?_) rfl (by kernel_rfl) (by kernel_rfl) (by kernel_rfl) (by kernel_rfl) (fun _ _ _ h => h) (Or.inl ⟨by kernel_rfl, ?rgy⟩) (by assumption) ?rgn
  case rgy => (intro w hSw; (try dsimp only at hSw); go_simp; (try with_reducible rfl))
  case rgn =>
    (try simp only [Act.put, List.setIfInBounds_toArray, List.set_cons_zero, List.set_cons_succ])
    refine takeD (i := 2) (d := (some 21)) (v := ?_) rfl (by kernel_rfl) (by kernel_rfl) (by kernel_rfl) (by kernel_rfl) (fun _ _ _ h => h) (Or.inl ⟨by kernel_rfl, ?rgy⟩) (by assumption) ?rgn
    case rgy => (intro w hSw; (try dsimp only at hSw); go_simp; (try with_reducible rfl))
    case rgn =>
      (try simp only [Act.put, List.setIfInBounds_toArray, List.set_cons_zero, List.set_cons_succ])
      refine wpAnyH_ready (rs := [1]) (by kernel_rfl) (by simp) ?_
      refine AllReadyH.cons rfl (fun K hK => ?_) AllReadyH.nil
      go_simp
      (go_at_call 14; (with_reducible refine (cV.out _).mono ?_); rintro e w2 ⟨rfl, hb⟩; have hk := Ext.trans' hk hb; (try clear m0 m1 m2 m3 m4 m5); (try clear n0 n1 n2 n3 n4 n5); (try clear q0 q1 q2 q3 q4 q5); obtain ⟨m0, m1, m2, m3, m4, m5⟩ := blk6 (Ext.blk hk hA); obtain ⟨n0, n1, n2, n3, n4, n5⟩ := blk6 (Ext.blk hk hB); obtain ⟨q0, q1, q2, q3, q4, q5⟩ := blk6 (Ext.blk hk hC))
      (try go_wp2_with fail)
      refine hK.out _ _ ?_ (fun hHeld => ?_)
      · (try dsimp only); (exact ⟨m0, m1, m2, m3, m4, m5, n0, n1, n2, n3, n4, n5, q0, q1, q2, q3, q4, q5⟩)
      clear hK K
      (try simp only [Act.put, List.setIfInBounds_toArray, List.set_cons_zero, List.set_cons_succ])
      refine wpAnyH_ready (rs := [3]) (by kernel_rfl) (by simp) ?_
      refine AllReadyH.cons rfl (fun K hK => ?_) AllReadyH.nil
      go_simp
      (go_at_call 24; (with_reducible refine (cRV.out _).mono ?_); rintro e w2 ⟨rfl, hb⟩; have hk := Ext.trans' hk hb; (try clear m0 m1 m2 m3 m4 m5); (try clear n0 n1 n2 n3 n4 n5); (try clear q0 q1 q2 q3 q4 q5); obtain ⟨m0, m1, m2, m3, m4, m5⟩ := blk6 (Ext.blk hk hA); obtain ⟨n0, n1, n2, n3, n4, n5⟩ := blk6 (Ext.blk hk hB); obtain ⟨q0, q1, q2, q3, q4, q5⟩ := blk6 (Ext.blk hk hC))
      (try go_wp2_with fail)
      refine hK.out _ _ ?_ (fun hHeld => ?_)
      · (try dsimp only); (exact ⟨m0, m1, m2, m3, m4, m5, n0, n1, n2, n3, n4, n5, q0, q1, q2, q3, q4, q5⟩)
      clear hK K
      (try simp only [Act.put, List.setIfInBounds_toArray, List.set_cons_zero, List.set_cons_succ])
      refine takeD (i := 4) (d := (some 23)) (v := ?_) rfl (by kernel_rfl) (by kernel_rfl) (by kernel_rfl) (by kernel_rfl) (fun _ _ _ h => h) (Or.inl ⟨by kernel_rfl, ?rgy⟩) (by assumption) ?rgn
      case rgy => (intro w hSw; (try dsimp only at hSw); go_simp; (try with_reducible rfl))
      case rgn =>
        (try simp only [Act.put, List.setIfInBounds_toArray, List.set_cons_zero, List.set_cons_succ])
        refine takeD (i := 5) (d := (some 24)) (v := ?_) rfl (by kernel_rfl) (by kernel_rfl) (by kernel_rfl) (by kernel_rfl) (fun _ _ _ h => h) (Or.inl ⟨by kernel_rfl, ?rgy⟩) (by assumption) ?rgn
        case rgy => (intro w hSw; (try dsimp only at hSw); go_simp; (try with_reducible rfl))
        case rgn =>
          (try simp only [Act.put, List.setIfInBounds_toArray, List.set_cons_zero, List.set_cons_succ])
          refine takeD (i := 6) (d := (some 25)) (v := ?_) rfl (by kernel_rfl) (by kernel_rfl) (by kernel_rfl) (by kernel_rfl) (fun _ _ _ h => h) (Or.inl ⟨by kernel_rfl, ?rgy⟩) (by assumption) ?rgn
          case rgy => (intro w hSw; (try dsimp only at hSw); go_simp; (try with_reducible rfl))
          case rgn =>
            (try simp only [Act.put, List.setIfInBounds_toArray, List.set_cons_zero, List.set_cons_succ])
            refine takeD (i := 8) (d := (some 27)) (v := ?_) rfl (by kernel_rfl) (by kernel_rfl) (by kernel_rfl) (by kernel_rfl) (fun _ _ _ h => h) (Or.inl ⟨by kernel_rfl, ?rgy⟩) (by assumption) ?rgn
            case rgy => (intro w hSw; (try dsimp only at hSw); go_simp; (try with_reducible rfl))
            case rgn =>
              (try simp only [Act.put, List.setIfInBounds_toArray, List.set_cons_zero, List.set_cons_succ])
              refine wpAnyH_ready (rs := [7]) (by kernel_rfl) (by simp) ?_
              refine AllReadyH.cons rfl (fun K hK => ?_) AllReadyH.nil
              go_simp
              (go_at_call 25; (with_reducible refine (cW.out _ (Ext.trans' hxk hk)).mono ?_); rintro e w' ⟨rfl, rfl⟩)
              (try go_wp2_with fail)
              refine hK.out _ _ ?_ (fun hHeld => ?_)
              · (try dsimp only); (exact ⟨m0, m1, m2, m3, m4, m5, n0, n1, n2, n3, n4, n5, q0, q1, q2, q3, q4, q5⟩)
              clear hK K
              (try simp only [Act.put, List.setIfInBounds_toArray, List.set_cons_zero, List.set_cons_succ])
              refine wpAnyH_ready (rs := [9]) (by kernel_rfl) (by simp) ?_
              refine AllReadyH.cons rfl (fun K hK => ?_) AllReadyH.nil
              go_simp
              (go_at_call 26; (with_reducible refine (cRW.out _).mono ?_); rintro e w2 ⟨rfl, hb⟩; have hk := Ext.trans' hk hb; (try clear m0 m1 m2 m3 m4 m5); (try clear n0 n1 n2 n3 n4 n5); (try clear q0 q1 q2 q3 q4 q5); obtain ⟨m0, m1, m2, m3, m4, m5⟩ := blk6 (Ext.blk hk hA); obtain ⟨n0, n1, n2, n3, n4, n5⟩ := blk6 (Ext.blk hk hB); obtain ⟨q0, q1, q2, q3, q4, q5⟩ := blk6 (Ext.blk hk hC))
              (try go_wp2_with fail)
              refine hK.out _ _ ?_ (fun hHeld => ?_)
              · (try dsimp only); (exact ⟨m0, m1, m2, m3, m4, m5, n0, n1, n2, n3, n4, n5, q0, q1, q2, q3, q4, q5⟩)
              clear hK K
              (try simp only [Act.put, List.setIfInBounds_toArray, List.set_cons_zero, List.set_cons_succ])
              refine takeD (i := 10) (d := (some 29)) (v := ?_) rfl (by kernel_rfl) (by kernel_rfl) (by kernel_rfl) (by kernel_rfl) (fun _ _ _ h => h) (Or.inl ⟨by kernel_rfl, ?rgy⟩) (by assumption) ?rgn
              case rgy => (intro w hSw; (try dsimp only at hSw); go_simp; (try with_reducible rfl))
              case rgn =>
                (try simp only [Act.put, List.setIfInBounds_toArray, List.set_cons_zero, List.set_cons_succ])
                refine takeD (i := 11) (d := (some 30)) (v := ?_) rfl (by kernel_rfl) (by kernel_rfl) (by kernel_rfl) (by kernel_rfl) (fun _ _ _ h => h) (Or.inl ⟨by kernel_rfl, ?rgy⟩) (by assumption) ?rgn
                case rgy => (intro w hSw; (try dsimp only at hSw); go_simp; (try with_reducible rfl))
                case rgn =>
                  (try simp only [Act.put, List.setIfInBounds_toArray, List.set_cons_zero, List.set_cons_succ])
                  refine takeD (i := 12) (d := (some 31)) (v := ?_) rfl (by kernel_rfl) (by kernel_rfl) (by kernel_rfl) (by kernel_rfl) (fun _ _ _ h => h) (Or.inl ⟨by kernel_rfl, ?rgy⟩) (by assumption) ?rgn
                  case rgy => (intro w hSw; (try dsimp only at hSw); go_simp; (try with_reducible rfl))
                  case rgn =>
                    (try simp only [Act.put, List.setIfInBounds_toArray, List.set_cons_zero, List.set_cons_succ])
                    refine takeD (i := 13) (d := (some 32)) (v := ?_) rfl (by kernel_rfl) (by kernel_rfl) (by kernel_rfl) (by kernel_rfl) (fun _ _ _ h => h) (Or.inl ⟨by kernel_rfl, ?rgy⟩) (by assumption) ?rgn
                    case rgy => (intro w hSw; (try dsimp only at hSw); go_simp; (try with_reducible rfl))
                    case rgn =>
                      (try simp only [Act.put, List.setIfInBounds_toArray, List.set_cons_zero, List.set_cons_succ])
                      refine takeD (i := 14) (d := (some 33)) (v := ?_) rfl (by kernel_rfl) (by kernel_rfl) (by kernel_rfl) (by kernel_rfl) (fun _ _ _ h => h) (Or.inl ⟨by kernel_rfl, ?rgy⟩) (by assumption) ?rgn
                      case rgy => (intro w hSw; (try dsimp only at hSw); go_simp; (try with_reducible rfl))
                      case rgn =>
                        (try simp only [Act.put, List.setIfInBounds_toArray, List.set_cons_zero, List.set_cons_succ])
                        refine takeD (i := 16) (d := (some 35)) (v := ?_) rfl (by kernel_rfl) (by kernel_rfl) (by kernel_rfl) (by kernel_rfl) (fun _ _ _ h => h) (Or.inl ⟨by kernel_rfl, ?rgy⟩) (by assumption) ?rgn
                        case rgy => (intro w hSw; (try dsimp only at hSw); go_simp; (try with_reducible rfl))
                        case rgn =>
                          (try simp only [Act.put, List.setIfInBounds_toArray, List.set_cons_zero, List.set_cons_succ])
                          refine takeD (i := 17) (d := (some 36)) (v := ?_) rfl (by kernel_rfl) (by kernel_rfl) (by kernel_rfl) (by kernel_rfl) (fun _ _ _ h => h) (Or.inl ⟨by kernel_rfl, ?rgy⟩) (by assumption) ?rgn
                          case rgy => (intro w hSw; (try dsimp only at hSw); go_simp; (try with_reducible rfl))
                          case rgn =>
                            (try simp only [Act.put, List.setIfInBounds_toArray, List.set_cons_zero, List.set_cons_succ])
                            refine wpAnyH_ready (rs := [15]) (by kernel_rfl) (by simp) ?_
                            refine AllReadyH.cons rfl (fun K hK => ?_) AllReadyH.nil
                            go_simp
                            (go_at_call 27; (with_reducible refine (cE1.out _ (Ext.trans' hxk hk)).mono ?_); rintro e w2 ⟨rfl, hb⟩; have hk := Ext.trans' hk hb; (try clear m0 m1 m2 m3 m4 m5); (try clear n0 n1 n2 n3 n4 n5); (try clear q0 q1 q2 q3 q4 q5); obtain ⟨m0, m1, m2, m3, m4, m5⟩ := blk6 (Ext.blk hk hA); obtain ⟨n0, n1, n2, n3, n4, n5⟩ := blk6 (Ext.blk hk hB); obtain ⟨q0, q1, q2, q3, q4, q5⟩ := blk6 (Ext.blk hk hC))
                            (try go_wp2_with fail)
                            refine hK.out _ _ ?_ (fun hHeld => ?_)
                            · (try dsimp only); (exact ⟨m0, m1, m2, m3, m4, m5, n0, n1, n2, n3, n4, n5, q0, q1, q2, q3, q4, q5⟩)
                            clear hK K
                            (try simp only [Act.put, List.setIfInBounds_toArray, List.set_cons_zero, List.set_cons_succ])
                            refine wpAnyH_ready (rs := [18]) (by kernel_rfl) (by simp) ?_
                            refine AllReadyH.cons rfl (fun K hK => ?_) AllReadyH.nil
                            go_simp
                            (go_at_call 28; (with_reducible refine (cS1.out _ (Ext.trans' hxk hk)).mono ?_); rintro e w2 ⟨rfl, hb⟩; have hk := Ext.trans' hk hb; (try clear m0 m1 m2 m3 m4 m5); (try clear n0 n1 n2 n3 n4 n5); (try clear q0 q1 q2 q3 q4 q5); obtain ⟨m0, m1, m2, m3, m4, m5⟩ := blk6 (Ext.blk hk hA); obtain ⟨n0, n1, n2, n3, n4, n5⟩ := blk6 (Ext.blk hk hB); obtain ⟨q0, q1, q2, q3, q4, q5⟩ := blk6 (Ext.blk hk hC))
                            (try go_wp2_with fail)
                            refine hK.out _ _ ?_ (fun hHeld => ?_)
                            · (try dsimp only); (exact ⟨m0, m1, m2, m3, m4, m5, n0, n1, n2, n3, n4, n5, q0, q1, q2, q3, q4, q5⟩)
                            clear hK K
                            (try simp only [Act.put, List.setIfInBounds_toArray, List.set_cons_zero, List.set_cons_succ])
                            refine takeD (i := 19) (d := (some 38)) (v := ?_) rfl (by kernel_rfl) (by kernel_rfl) (by kernel_rfl) (by kernel_rfl) (fun _ _ _ h => h) (Or.inl ⟨by kernel_rfl, ?rgy⟩) (by assumption) ?rgn
                            case rgy => (intro w hSw; (try dsimp only at hSw); go_simp; (try with_reducible rfl))
                            case rgn =>
                              (try simp only [Act.put, List.setIfInBounds_toArray, List.set_cons_zero, List.set_cons_succ])
                              refine takeD (i := 20) (d := (some 39)) (v := ?_) rfl (by kernel_rfl) (by kernel_rfl) (by kernel_rfl) (by kernel_rfl) (fun _ _ _ h => h) (Or.inl ⟨by kernel_rfl, ?rgy⟩) (by assumption) ?rgn
                              case rgy => (intro w hSw; (try dsimp only at hSw); go_simp; (try with_reducible rfl))
                              case rgn =>
                                (try simp only [Act.put, List.setIfInBounds_toArray, List.set_cons_zero, List.set_cons_succ])
                                refine takeD (i := 21) (d := (some 40)) (v := ?_) rfl (by kernel_rfl) (by kernel_rfl) (by kernel_rfl) (by kernel_rfl) (fun _ _ _ h => h) (Or.inl ⟨by kernel_rfl, ?rgy⟩) (by assumption) ?rgn
                                case rgy => (intro w hSw; (try dsimp only at hSw); go_simp; (try with_reducible rfl))
                                case rgn =>
                                  (try simp only [Act.put, List.setIfInBounds_toArray, List.set_cons_zero, List.set_cons_succ])
                                  refine takeD (i := 22) (d := (some 41)) (v := ?_) rfl (by kernel_rfl) (by kernel_rfl) (by kernel_rfl) (by kernel_rfl) (fun _ _ _ h => h) (Or.inl ⟨by kernel_rfl, ?rgy⟩) (by assumption) ?rgn
                                  case rgy => (intro w hSw; (try dsimp only at hSw); go_simp; (try with_reducible rfl))
                                  case rgn =>
                                    (try simp only [Act.put, List.setIfInBounds_toArray, List.set_cons_zero, List.set_cons_succ])
                                    refine takeD (i := 23) (d := (some 42)) (v := ?_) rfl (by kernel_rfl) (by kernel_rfl) (by kernel_rfl) (by kernel_rfl) (fun _ _ _ h => h) (Or.inl ⟨by kernel_rfl, ?rgy⟩) (by assumption) ?rgn
                                    case rgy => (intro w hSw; (try dsimp only at hSw); go_simp; (try with_reducible rfl))
                                    case rgn =>
                                      (try simp only [Act.put, List.setIfInBounds_toArray, List.set_cons_zero, List.set_cons_succ])
                                      refine wpAnyH_ready (rs := [24]) (by kernel_rfl) (by simp) ?_
                                      refine AllReadyH.cons rfl (fun K hK => ?_) AllReadyH.nil
                                      go_simp
                                      (go_at_call 27; (with_reducible refine (cE2.out _ _ _ (hv3.ext hk) (Ext.trans' hxk hk)).mono ?_); rintro e w2 ⟨rfl, hb⟩; have hk := Ext.trans' hk hb; (try clear m0 m1 m2 m3 m4 m5); (try clear n0 n1 n2 n3 n4 n5); (try clear q0 q1 q2 q3 q4 q5); obtain ⟨m0, m1, m2, m3, m4, m5⟩ := blk6 (Ext.blk hk hA); obtain ⟨n0, n1, n2, n3, n4, n5⟩ := blk6 (Ext.blk hk hB); obtain ⟨q0, q1, q2, q3, q4, q5⟩ := blk6 (Ext.blk hk hC))
                                      (try go_wp2_with fail)
                                      refine hK.out _ _ ?_ (fun hHeld => ?_)
                                      · (try dsimp only); (exact ⟨m0, m1, m2, m3, m4, m5, n0, n1, n2, n3, n4, n5, q0, q1, q2, q3, q4, q5⟩)
                                      clear hK K
                                      (try simp only [Act.put, List.setIfInBounds_toArray, List.set_cons_zero, List.set_cons_succ])
                                      refine takeD (i := 25) (d := (some 44)) (v := ?_) rfl (by kernel_rfl) (by kernel_rfl) (by kernel_rfl) (by kernel_rfl) (fun _ _ _ h => h) (Or.inl ⟨by kernel_rfl, ?rgy⟩) (by assumption) ?rgn
                                      case rgy => (intro w hSw; (try dsimp only at hSw); go_simp; (try with_reducible rfl))
                                      case rgn =>
                                        (try simp only [Act.put, List.setIfInBounds_toArray, List.set_cons_zero, List.set_cons_succ])
                                        refine takeD (i := 26) (d := (some 45)) (v := ?_) rfl (by kernel_rfl) (by kernel_rfl) (by kernel_rfl) (by kernel_rfl) (fun _ _ _ h => h) (Or.inl ⟨by kernel_rfl, ?rgy⟩) (by assumption) ?rgn
                                        case rgy => (intro w hSw; (try dsimp only at hSw); go_simp; (try with_reducible rfl))
                                        case rgn =>
                                          (try simp only [Act.put, List.setIfInBounds_toArray, List.set_cons_zero, List.set_cons_succ])
                                          refine wpAnyH_done (by kernel_rfl) ?_ _
                                          go_upto_region 8 with (first
                                            | (go_at_call 24; (with_reducible refine (cRV.out _).mono ?_); rintro e w2 ⟨rfl, hb⟩; have hk := Ext.trans' hk hb; (try clear m0 m1 m2 m3 m4 m5); (try clear n0 n1 n2 n3 n4 n5); (try clear q0 q1 q2 q3 q4 q5); obtain ⟨m0, m1, m2, m3, m4, m5⟩ := blk6 (Ext.blk hk hA); obtain ⟨n0, n1, n2, n3, n4, n5⟩ := blk6 (Ext.blk hk hB); obtain ⟨q0, q1, q2, q3, q4, q5⟩ := blk6 (Ext.blk hk hC)))
                                          refine wp_region_held_drew (S := (fun w' => w'.cell? ⟨W.heap.size, 0, none⟩ = some (.int .i64 (j : Int)) ∧ w'.cell? ⟨W.heap.size, 1, none⟩ = some (.string s) ∧ w'.cell? ⟨W.heap.size, 2, none⟩ = some (.slice a l.length c) ∧ w'.cell? ⟨W.heap.size, 3, none⟩ = some (.int .u64 b) ∧ w'.cell? ⟨W.heap.size, 4, none⟩ = some (.int .u64 d) ∧ w'.cell? ⟨W.heap.size, 5, none⟩ = some (.int .u64 t))) (by kernel_rfl) ?_ (fun hHeld => ?_)
                                          · (try dsimp only); (first | go_keep | (exact ⟨m0, m1, m2, m3, m4, m5⟩))
                                          have hk := Ext.drew1 hk
                                          refine takeD (i := 0) (d := (some 54)) (v := ?_) rfl (by kernel_rfl) (by kernel_rfl) (by kernel_rfl) (by kernel_rfl) (fun _ _ _ h => h) (Or.inl ⟨by kernel_rfl, ?rgy⟩) (by assumption) ?rgn
                                          case rgy => (intro w hSw; (try dsimp only at hSw); go_simp; (try with_reducible rfl))
                                          case rgn =>
                                            (try simp only [Act.put, List.setIfInBounds_toArray, List.set_cons_zero, List.set_cons_succ])
                                            refine takeD (i := 1) (d := (some 55)) (v := ?_) rfl (by kernel_rfl) (by kernel_rfl) (by kernel_rfl) (by kernel_rfl) (fun _ _ _ h => h) (Or.inl ⟨by kernel_rfl, ?rgy⟩) (by assumption) ?rgn
                                            case rgy => (intro w hSw; (try dsimp only at hSw); go_simp; (try with_reducible rfl))
                                            case rgn =>
                                              (try simp only [Act.put, List.setIfInBounds_toArray, List.set_cons_zero, List.set_cons_succ])
                                              refine wpAnyH_ready (rs := [2]) (by kernel_rfl) (by simp) ?_
                                              refine AllReadyH.cons rfl (fun K hK => ?_) AllReadyH.nil
                                              go_simp
                                              (go_at_call 18; (with_reducible refine (cT.out _ (Ext.trans' hxk hk)).mono ?_); rintro e w2 ⟨rfl, hb⟩; have hk := Ext.trans' hk hb; (try clear m0 m1 m2 m3 m4 m5); (try clear n0 n1 n2 n3 n4 n5); (try clear q0 q1 q2 q3 q4 q5); obtain ⟨m0, m1, m2, m3, m4, m5⟩ := blk6 (Ext.blk hk hA); obtain ⟨n0, n1, n2, n3, n4, n5⟩ := blk6 (Ext.blk hk hB); obtain ⟨q0, q1, q2, q3, q4, q5⟩ := blk6 (Ext.blk hk hC))
                                              (try go_wp2_with fail)
                                              refine hK.out _ _ ?_ (fun hHeld => ?_)
                                              · (try dsimp only); (exact ⟨m0, m1, m2, m3, m4, m5⟩)
                                              clear hK K
                                              (try simp only [Act.put, List.setIfInBounds_toArray, List.set_cons_zero, List.set_cons_succ])
                                              refine wpAnyH_ready (rs := [3]) (by kernel_rfl) (by simp) ?_
                                              refine AllReadyH.cons rfl (fun K hK => ?_) AllReadyH.nil
                                              go_simp
                                              (go_at_call 15; (with_reducible refine (cX.out _ (Ext.trans' hxk hk)).mono ?_); rintro e w2 ⟨rfl, hb⟩; have hk := Ext.trans' hk hb; (try clear m0 m1 m2 m3 m4 m5); (try clear n0 n1 n2 n3 n4 n5); (try clear q0 q1 q2 q3 q4 q5); obtain ⟨m0, m1, m2, m3, m4, m5⟩ := blk6 (Ext.blk hk hA); obtain ⟨n0, n1, n2, n3, n4, n5⟩ := blk6 (Ext.blk hk hB); obtain ⟨q0, q1, q2, q3, q4, q5⟩ := blk6 (Ext.blk hk hC))
                                              (try go_wp2_with fail)
                                              refine hK.out _ _ ?_ (fun hHeld => ?_)
                                              · (try dsimp only); (exact ⟨m0, m1, m2, m3, m4, m5⟩)
                                              clear hK K
                                              (try simp only [Act.put, List.setIfInBounds_toArray, List.set_cons_zero, List.set_cons_succ])
                                              refine takeD (i := 4) (d := (some 58)) (v := ?_) rfl (by kernel_rfl) (by kernel_rfl) (by kernel_rfl) (by kernel_rfl) (fun _ _ _ h => h) (Or.inl ⟨by kernel_rfl, ?rgy⟩) (by assumption) ?rgn
                                              case rgy => (intro w hSw; (try dsimp only at hSw); go_simp; (try with_reducible rfl))
                                              case rgn =>
                                                (try simp only [Act.put, List.setIfInBounds_toArray, List.set_cons_zero, List.set_cons_succ])
                                                refine wpAnyH_ready (rs := [5]) (by kernel_rfl) (by simp) ?_
                                                refine AllReadyH.cons rfl (fun K hK => ?_) AllReadyH.nil
                                                go_simp
                                                (go_at_call 11; (with_reducible refine (ck.out _ (Ext.trans' hxk hk)).mono ?_); rintro e w2 ⟨rfl, hb⟩; have hk := Ext.trans' hk hb; (try clear m0 m1 m2 m3 m4 m5); (try clear n0 n1 n2 n3 n4 n5); (try clear q0 q1 q2 q3 q4 q5); obtain ⟨m0, m1, m2, m3, m4, m5⟩ := blk6 (Ext.blk hk hA); obtain ⟨n0, n1, n2, n3, n4, n5⟩ := blk6 (Ext.blk hk hB); obtain ⟨q0, q1, q2, q3, q4, q5⟩ := blk6 (Ext.blk hk hC))
                                                (try go_wp2_with fail)
                                                refine hK.out _ _ ?_ (fun hHeld => ?_)
                                                · (try dsimp only); (exact ⟨m0, m1, m2, m3, m4, m5⟩)
                                                clear hK K
                                                (try simp only [Act.put, List.setIfInBounds_toArray, List.set_cons_zero, List.set_cons_succ])
                                                refine takeD (i := 6) (d := (some 60)) (v := ?_) rfl (by kernel_rfl) (by kernel_rfl) (by kernel_rfl) (by kernel_rfl) (fun _ _ _ h => h) (Or.inl ⟨by kernel_rfl, ?rgy⟩) (by assumption) ?rgn
                                                case rgy => (intro w hSw; (try dsimp only at hSw); go_simp; (try with_reducible rfl))
                                                case rgn =>
                                                  (try simp only [Act.put, List.setIfInBounds_toArray, List.set_cons_zero, List.set_cons_succ])
                                                  refine takeD (i := 7) (d := (some 6)) (v := ?_) rfl (by kernel_rfl) (by kernel_rfl) (by kernel_rfl) (by kernel_rfl) (fun _ _ _ h => h) (Or.inl ⟨by kernel_rfl, ?rgy⟩) (by assumption) ?rgn
                                                  case rgy => (intro w hSw; (try dsimp only at hSw); go_simp; (try with_reducible rfl))
                                                  case rgn =>
                                                    (try simp only [Act.put, List.setIfInBounds_toArray, List.set_cons_zero, List.set_cons_succ])
                                                    refine wpAnyH_done (by kernel_rfl) ?_ _
                                                    go_wp2
                                                    go_ret
                                                    exact ⟨rfl, Ext.trans' hxk hk⟩
set_option maxRecDepth 100000 in
set_option maxHeartbeats 4000000 in
theorem lawEventTexts_walk (v v2 : Value) (kk : Int) (W : World) (hv : EvArg W v) (hv2 : EvArg W v2) (w2 : (Lit.int .i64 kk).wf = true) (ht : EnvV W) :
    Calls Tryd.prog 6 #[v, v2, .int .i64 kk] W fun e W' => e = .returned (.bool true) ∧ Below W.heap.size W W' := by
  obtain ⟨k, s, a, m, c, b, d, t, rfl, hk, hs, hm, hb, hd, htt, hl⟩ := hv.parts
  obtain ⟨k2, s2, a2, m2, c2, b2, d2, t2, rfl, hk2, hs2, hm2, hb2, hd2, htt2, hl2⟩ := hv2.parts
  have ck : Box (∀ w, Ext W w → Calls Tryd.prog 11 #[] w fun e w' => e = .returned (.bool true) ∧ Ext w w') := ⟨fun w h => known_any w (ht.ext h)⟩
  have c1 : Box _ := ⟨fun w => light_any k s a m c b d t w hs hm⟩
  have c2' : Box _ := ⟨fun w => light_any k2 s2 a2 m2 c2 b2 d2 t2 w hs2 hm2⟩
  have hx : Ext W ((W.alloc (.cells #[.int .i64 (k), .string s, .slice a (m) c, .int .u64 (b), .int .u64 (d), .int .u64 (t)] 28)).alloc (.cells #[.int .i64 (k2), .string s2, .slice a2 (m2) c2, .int .u64 (b2), .int .u64 (d2), .int .u64 (t2)] 28)) := Ext.alloc (Ext.alloc (Below.refl _ _) _) _
  have hA : ((W.alloc (.cells #[.int .i64 (k), .string s, .slice a (m) c, .int .u64 (b), .int .u64 (d), .int .u64 (t)] 28)).alloc (.cells #[.int .i64 (k2), .string s2, .slice a2 (m2) c2, .int .u64 (b2), .int .u64 (d2), .int .u64 (t2)] 28)).heap[W.heap.size]? = some (.cells #[.int .i64 (k), .string s, .slice a (m) c, .int .u64 (b), .int .u64 (d), .int .u64 (t)] 28 (0, 0)) := Ext.blk (Ext.alloc (Below.refl _ _) _) (newblk W _)
  have hB : ((W.alloc (.cells #[.int .i64 (k), .string s, .slice a (m) c, .int .u64 (b), .int .u64 (d), .int .u64 (t)] 28)).alloc (.cells #[.int .i64 (k2), .string s2, .slice a2 (m2) c2, .int .u64 (b2), .int .u64 (d2), .int .u64 (t2)] 28)).heap[W.heap.size + 1]? = some (.cells #[.int .i64 (k2), .string s2, .slice a2 (m2) c2, .int .u64 (b2), .int .u64 (d2), .int .u64 (t2)] 28 (0, 0)) := by
    have h := newblk (W.alloc (.cells #[.int .i64 (k), .string s, .slice a (m) c, .int .u64 (b), .int .u64 (d), .int .u64 (t)] 28)) (.cells #[.int .i64 (k2), .string s2, .slice a2 (m2) c2, .int .u64 (b2), .int .u64 (d2), .int .u64 (t2)] 28)
    rw [show (W.alloc (.cells #[.int .i64 (k), .string s, .slice a (m) c, .int .u64 (b), .int .u64 (d), .int .u64 (t)] 28)).heap.size = W.heap.size + 1 by simp] at h
    exact h
  obtain ⟨m0', m1', m2', m3', m4', m5'⟩ := blk6 hA
  obtain ⟨n0, n1, n2, n3, n4, n5⟩ := blk6 hB
  cases h1 : lightB s.size m with
  | false =>
    rw [h1] at c1
    clear h1 ht hl hl2 hv hv2 w2 hk hs hm hb hd htt hk2 hs2 hm2 hb2 hd2 htt2
    go_enter Tryd.func6, Tryd.ntmps6
    go_wp2_with (first
      | (go_at_call 22; (with_reducible refine (c1.out _).mono ?_); rintro e w1 ⟨rfl, hb1⟩; have hx := Ext.trans' hx hb1)
      | (go_at_call 11; (with_reducible refine (ck.out _ hx).mono ?_); rintro e w1 ⟨rfl, hb⟩; have hx := Ext.trans' hx hb))
    go_ret
    exact ⟨rfl, hx⟩
  | true =>
    cases h2 : lightB s2.size m2 with
    | false =>
      rw [h1] at c1
      rw [h2] at c2'
      clear h1 h2 ht hl hl2 hv hv2 w2 hk hs hm hb hd htt hk2 hs2 hm2 hb2 hd2 htt2
      go_enter Tryd.func6, Tryd.ntmps6
      go_wp2_with (first
        | (go_at_call 22; (with_reducible refine (c1.out _).mono ?_); rintro e w1 ⟨rfl, hb1⟩; have hx := Ext.trans' hx hb1; have hB := Ext.blk hb1 hB; clear n0 n1 n2 n3 n4 n5; obtain ⟨n0, n1, n2, n3, n4, n5⟩ := blk6 hB)
        | (go_at_call 22; (with_reducible refine (c2'.out _).mono ?_); rintro e w1 ⟨rfl, hb1⟩; have hx := Ext.trans' hx hb1)
        | (go_at_call 11; (with_reducible refine (ck.out _ hx).mono ?_); rintro e w1 ⟨rfl, hb⟩; have hx := Ext.trans' hx hb))
      go_ret
      exact ⟨rfl, hx⟩
    | true =>
      have e1 : s.size ≤ 300 ∧ m ≤ 1000 := by simpa [lightB] using h1
      have e2 : s2.size ≤ 300 ∧ m2 ≤ 1000 := by simpa [lightB] using h2
      obtain ⟨l, rfl, hl⟩ := hl (by omega)
      obtain ⟨l2, rfl, hl2⟩ := hl2 (by omega)
      cases hy : okV k s.size l.length b d t with
      | false => exact texts_no k k2 kk s s2 a a2 l l2 c c2 b b2 d d2 t t2 W ht e1.1 e1.2 e2.1 e2.2 hb hd htt hl hl2 hy
      | true =>
        have hkB : kB k = true := by unfold okV at hy; simp only [Bool.and_eq_true] at hy; exact hy.1.1
        obtain ⟨j, rfl, h1, h5⟩ := kB_nat k hkB
        exact texts_yes j k2 kk s s2 a a2 l l2 c c2 b b2 d d2 t t2 W ht e1.1 e1.2 e2.1 e2.2 hb hd htt hl hl2 hy h1 h5
end Go.Proofs.YtapngkjgagapeaaDoor
