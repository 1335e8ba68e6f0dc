import Derived.Test.YtapngkjgagapeaaDoorVQ
/- Nil and zero streams: each of their functions; the walk of EventNil. -/
namespace Go.Proofs.YtapngkjgagapeaaDoor
open Go.RowKit

def NoneS (p : Value) (w : World) : Prop := ∀ w', Ext w w' → Calls Tryd.prog 46 #[p] w' fun e w'' => e = .returned (.bool true) ∧ w' = w''
theorem NoneS.ext {p : Value} {w w' : World} (h : NoneS p w) (hb : Ext w w') : NoneS p w' := fun w2 h2 => h w2 (Ext.trans' hb h2)
theorem NoneS.nil (w : World) : NoneS (.pointer none) w := fun w' _ => none_nil w'
set_option maxHeartbeats 2000000 in
theorem nAdd (p : Value) (k : Int) (s : ByteArray) (a : Option Addr) (m c b d t : Nat) (w : World) (h : NoneS p w) :
    Calls Tryd.prog 17 #[p, (.agg #[.int .i64 (k), .string s, .slice a (m) c, .int .u64 (b), .int .u64 (d), .int .u64 (t)])] w fun e w' => e = .returned (.int .i64 1) ∧ Ext w w' := by
  have hx : Ext w (w.alloc (.cells #[.int .i64 (k), .string s, .slice a (m) c, .int .u64 (b), .int .u64 (d), .int .u64 (t)] 28)) := Ext.alloc (Below.refl _ _) _
  have c1 : Box (∀ w', Ext w w' → _) := ⟨fun w' hx => h w' hx⟩
  clear h
  go_enter Tryd.func17, Tryd.ntmps17
  go_wp2_with (first | (go_at_call 46; (with_reducible refine (c1.out _ hx).mono ?_); rintro e w' ⟨rfl, rfl⟩))
  go_ret
  exact ⟨rfl, hx⟩
set_option maxHeartbeats 2000000 in
theorem nTake (p : Value) (n : Int) (w : World) (h : NoneS p w) :
    Calls Tryd.prog 19 #[p, .int .i64 n] w fun e w' => e = .returned (.tuple #[.slice none 0 0, .int .i64 1]) ∧ Ext w w' := by
  have hx : Ext w w := Below.refl _ _
  have c1 : Box (∀ w', Ext w w' → _) := ⟨fun w' hx => h w' hx⟩
  clear h
  go_enter Tryd.func19, Tryd.ntmps19
  go_wp2_with (first | (go_at_call 46; (with_reducible refine (c1.out _ hx).mono ?_); rintro e w' ⟨rfl, rfl⟩))
  go_ret2
  exact ⟨rfl, hx⟩
set_option maxHeartbeats 2000000 in
theorem nList (p : Value) (w : World) (h : NoneS p w) :
    Calls Tryd.prog 35 #[p] w fun e w' => e = .returned (.slice none 0 0) ∧ Ext w w' := by
  have hx : Ext w w := Below.refl _ _
  have c1 : Box (∀ w', Ext w w' → _) := ⟨fun w' hx => h w' hx⟩
  clear h
  go_enter Tryd.func35, Tryd.ntmps35
  go_wp2_with (first | (go_at_call 46; (with_reducible refine (c1.out _ hx).mono ?_); rintro e w' ⟨rfl, rfl⟩))
  go_ret
  exact ⟨rfl, hx⟩
set_option maxHeartbeats 2000000 in
theorem nLen (p : Value) (w : World) (h : NoneS p w) :
    Calls Tryd.prog 20 #[p] w fun e w' => e = .returned (.int .i64 0) ∧ Ext w w' := by
  have hx : Ext w w := Below.refl _ _
  have c1 : Box (∀ w', Ext w w' → _) := ⟨fun w' hx => h w' hx⟩
  clear h
  go_enter Tryd.func20, Tryd.ntmps20
  go_wp2_with (first | (go_at_call 46; (with_reducible refine (c1.out _ hx).mono ?_); rintro e w' ⟨rfl, rfl⟩))
  go_ret
  exact ⟨rfl, hx⟩
set_option maxHeartbeats 2000000 in
theorem nCount (p : Value) (k : Int) (w : World) (h : NoneS p w) :
    Calls Tryd.prog 21 #[p, .int .i64 k] w fun e w' => e = .returned (.int .u64 0) ∧ Ext w w' := by
  have hx : Ext w w := Below.refl _ _
  have c1 : Box (∀ w', Ext w w' → _) := ⟨fun w' hx => h w' hx⟩
  clear h
  go_enter Tryd.func21, Tryd.ntmps21
  go_wp2_with (first | (go_at_call 46; (with_reducible refine (c1.out _ hx).mono ?_); rintro e w' ⟨rfl, rfl⟩))
  go_ret
  exact ⟨rfl, hx⟩
set_option maxHeartbeats 2000000 in
theorem nCopy (p : Value) (w : World) (h : NoneS p w) :
    Calls Tryd.prog 33 #[p] w fun e w' => e = .returned (.pointer none) ∧ Ext w w' := by
  have hx : Ext w w := Below.refl _ _
  have c1 : Box (∀ w', Ext w w' → _) := ⟨fun w' hx => h w' hx⟩
  clear h
  go_enter Tryd.func33, Tryd.ntmps33
  go_wp2_with (first | (go_at_call 46; (with_reducible refine (c1.out _ hx).mono ?_); rintro e w' ⟨rfl, rfl⟩))
  go_ret
  exact ⟨rfl, hx⟩
set_option maxHeartbeats 2000000 in
theorem nTakes (p : Value) (n : Int) (w : World) (h : NoneS p w) :
    Calls Tryd.prog 32 #[p, .int .i64 n, .slice none 0 0, .int .i64 1] w fun e w' => e = .returned (.bool true) ∧ Ext w w' := by
  have hx : Ext w w := Below.refl _ _
  have c1 : Box (∀ w', Ext w w' → _) := ⟨fun w' hx => nTake p n w' (h.ext hx)⟩
  have c2 : Box _ := ⟨fun w => sameAll_any (.slice none 0 0) (.slice none 0 0) [] [] w (Es.nil w) (Es.nil w) rfl⟩
  clear h
  go_enter Tryd.func32, Tryd.ntmps32
  go_wp2_with (first | (go_at_call 19; (with_reducible refine (c1.out _ hx).mono ?_); rintro e w1 ⟨rfl, hb⟩; have hx := Ext.trans' hx hb) | (go_at_call 34; (with_reducible refine (c2.out _).mono ?_); rintro e w1 ⟨rfl, hb⟩; have hx := Ext.trans' hx hb))
  go_ret
  exact ⟨rfl, hx⟩
set_option maxRecDepth 100000 in
set_option maxHeartbeats 8000000 in
theorem lawEventNil_walk (v : Value) (n : Int) (W : World) (hv : EvArg W v) (w1 : (Lit.int .i64 n).wf = true) (ht : EnvV W) :
    Calls Tryd.prog 9 #[v, .int .i64 n] W fun e W' => e = .returned (.bool true) ∧ Below W.heap.size W W' := by
  have ck : Box (∀ w, Ext W w → Calls Tryd.prog 11 #[] w fun e w' => e = .returned (.bool true) ∧ Ext w w') := ⟨fun w h => known_any w (ht.ext h)⟩
  obtain ⟨k, s, a, m, c, b, d, t, rfl, hk, hs, hm, hb, hd, htt, _⟩ := hv.parts
  have cl : Box _ := ⟨fun w => light_any k s a m c b d t w hs hm⟩
  have hx : Ext W (W.alloc (.cells #[.int .i64 (k), .string s, .slice a (m) c, .int .u64 (b), .int .u64 (d), .int .u64 (t)] 28)) := Ext.alloc (Below.refl _ _) _
  have hB := newblk W (.cells #[.int .i64 (k), .string s, .slice a (m) c, .int .u64 (b), .int .u64 (d), .int .u64 (t)] 28)
  obtain ⟨m0, m1, m2, m3, m4, m5⟩ := blk6 hB
  clear hv w1 ht hk hs hm hb hd htt
  cases hL : lightB s.size m
  · rw [hL] at cl
    clear hL
    go_enter Tryd.func9, Tryd.ntmps9
    go_wp2_with (first | (go_at_call 22; (with_reducible refine (cl.out _).mono ?_); rintro e w1 ⟨rfl, hb⟩; have hx := Ext.trans' hx hb) | (go_at_call 11; (with_reducible refine (ck.out _ hx).mono ?_); rintro e w1 ⟨rfl, hb⟩; have hx := Ext.trans' hx hb))
    go_ret
    exact ⟨rfl, hx⟩
  · rw [hL] at cl
    clear hL
    go_enter Tryd.func9, Tryd.ntmps9
    go_upto_region 4 with (first | (go_at_call 22; (with_reducible refine (cl.out _).mono ?_); rintro e w1 ⟨rfl, hb⟩; (try clear m0 m1 m2 m3 m4 m5); have hx := Ext.trans' hx hb; have hB := Ext.blk hb hB; obtain ⟨m0, m1, m2, m3, m4, m5⟩ := blk6 hB))
    obtain ⟨wz, hwz⟩ : ∃ w, w = w1.alloc (.cells #[.pointer none, .pointer none, .int .u64 0, .int .u64 0, .int .u64 0, .int .u64 0, .int .u64 0, .int .u64 0, .int .i64 0, .bool false] 69) := ⟨_, rfl⟩
    obtain ⟨wk, hwk⟩ : ∃ w, w = wz.alloc (.cells #[.pointer none, .pointer (some ⟨w1.heap.size, 0, none⟩)] 36) := ⟨_, rfl⟩
    rw [← hwz, ← hwk]
    have x1 : Ext w1 wz := by rw [hwz]; exact Ext.alloc (Below.refl _ _) _
    have x2 : Ext wz wk := by rw [hwk]; exact Ext.alloc (Below.refl _ _) _
    have hxk : Ext W wk := Ext.trans' hx (Ext.trans' x1 x2)
    have zs : wz.heap.size = w1.heap.size + 1 := by rw [hwz]; simp
    have b1 : wz.heap[w1.heap.size]? = some (.cells #[.pointer none, .pointer none, .int .u64 0, .int .u64 0, .int .u64 0, .int .u64 0, .int .u64 0, .int .u64 0, .int .i64 0, .bool false] 69 (0, 0)) := by rw [hwz]; exact newblk _ _
    have b2 : wk.heap[w1.heap.size + 1]? = some (.cells #[.pointer none, .pointer (some ⟨w1.heap.size, 0, none⟩)] 36 (0, 0)) := by rw [hwk, ← zs]; exact newblk _ _
    have hz9 : wk.cell? ⟨w1.heap.size, 9, none⟩ = some (.bool false) := by rw [Lib.cell_of_heap (Ext.blk x2 b1)]; rfl
    have G0 : wk.cell? ⟨w1.heap.size + 1, 0, none⟩ = some (.pointer none) := by rw [Lib.cell_of_heap b2]; rfl
    have G1 : wk.cell? ⟨w1.heap.size + 1, 1, none⟩ = some (.pointer (some ⟨w1.heap.size, 0, none⟩)) := by rw [Lib.cell_of_heap b2]; rfl
    have HB := Ext.blk (Ext.trans' x1 x2) hB
    have N1 : NoneS (.pointer (some ⟨w1.heap.size, 0, none⟩)) wk := fun w' h => none_zero w1.heap.size w' (Ext.cell h hz9)
    have N0 : NoneS (.pointer none) wk := NoneS.nil wk
    have cA0 : Box (∀ w, Ext wk w → _) := ⟨fun w h => nAdd (.pointer none) k s a m c b d t w (N0.ext h)⟩
    have cT0 : Box (∀ w, Ext wk w → _) := ⟨fun w h => nTakes (.pointer none) n w (N0.ext h)⟩
    have cL0 : Box (∀ w, Ext wk w → _) := ⟨fun w h => nList (.pointer none) w (N0.ext h)⟩
    have cN0 : Box (∀ w, Ext wk w → _) := ⟨fun w h => nLen (.pointer none) w (N0.ext h)⟩
    have cC0 : Box (∀ w, Ext wk w → _) := ⟨fun w h => nCount (.pointer none) k w (N0.ext h)⟩
    have cY0 : Box (∀ w, Ext wk w → _) := ⟨fun w h => nCopy (.pointer none) w (N0.ext h)⟩
    have cA1 : Box (∀ w, Ext wk w → _) := ⟨fun w h => nAdd (.pointer (some ⟨w1.heap.size, 0, none⟩)) k s a m c b d t w (N1.ext h)⟩
    have cT1 : Box (∀ w, Ext wk w → _) := ⟨fun w h => nTakes (.pointer (some ⟨w1.heap.size, 0, none⟩)) n w (N1.ext h)⟩
    have cL1 : Box (∀ w, Ext wk w → _) := ⟨fun w h => nList (.pointer (some ⟨w1.heap.size, 0, none⟩)) w (N1.ext h)⟩
    have cN1 : Box (∀ w, Ext wk w → _) := ⟨fun w h => nLen (.pointer (some ⟨w1.heap.size, 0, none⟩)) w (N1.ext h)⟩
    have cC1 : Box (∀ w, Ext wk w → _) := ⟨fun w h => nCount (.pointer (some ⟨w1.heap.size, 0, none⟩)) k w (N1.ext h)⟩
    have cY1 : Box (∀ w, Ext wk w → _) := ⟨fun w h => nCopy (.pointer (some ⟨w1.heap.size, 0, none⟩)) w (N1.ext h)⟩
    have HX := Box.mk hxk
    have hk : Ext wk wk := Below.refl _ _
    clear m0 m1 m2 m3 m4 m5 hx hB hb hwz hwk x1 x2 b1 b2 hz9 N0 N1 hxk zs
    obtain ⟨m0, m1, m2, m3, m4, m5⟩ := blk6 HB
    have g0 := G0; have g1 := G1
    have ck : Box (∀ w, Ext wk w → Calls Tryd.prog 11 #[] w fun e w' => e = .returned (.bool true) ∧ Ext w w') := ⟨fun w h => ck.out w (Ext.trans' HX.out h)⟩
    refine wp_loop_rounds 3 ?_
    repeat any_goals (rw [rounds_succ]; go_wp2_with (first
      | (go_at_call 17; (with_reducible refine (cA0.out _ hk).mono ?_); rintro e w2 ⟨rfl, hb⟩; have hk := Ext.trans' hk hb; (try clear m0 m1 m2 m3 m4 m5 g0 g1); obtain ⟨m0, m1, m2, m3, m4, m5⟩ := blk6 (Ext.blk hk HB); have g0 := Ext.cell hk G0; have g1 := Ext.cell hk G1)
      | (go_at_call 17; (with_reducible refine (cA1.out _ hk).mono ?_); rintro e w2 ⟨rfl, hb⟩; have hk := Ext.trans' hk hb; (try clear m0 m1 m2 m3 m4 m5 g0 g1); obtain ⟨m0, m1, m2, m3, m4, m5⟩ := blk6 (Ext.blk hk HB); have g0 := Ext.cell hk G0; have g1 := Ext.cell hk G1)
      | (go_at_call 32; (with_reducible refine (cT0.out _ hk).mono ?_); rintro e w2 ⟨rfl, hb⟩; have hk := Ext.trans' hk hb; (try clear m0 m1 m2 m3 m4 m5 g0 g1); obtain ⟨m0, m1, m2, m3, m4, m5⟩ := blk6 (Ext.blk hk HB); have g0 := Ext.cell hk G0; have g1 := Ext.cell hk G1)
      | (go_at_call 32; (with_reducible refine (cT1.out _ hk).mono ?_); rintro e w2 ⟨rfl, hb⟩; have hk := Ext.trans' hk hb; (try clear m0 m1 m2 m3 m4 m5 g0 g1); obtain ⟨m0, m1, m2, m3, m4, m5⟩ := blk6 (Ext.blk hk HB); have g0 := Ext.cell hk G0; have g1 := Ext.cell hk G1)
      | (go_at_call 35; (with_reducible refine (cL0.out _ hk).mono ?_); rintro e w2 ⟨rfl, hb⟩; have hk := Ext.trans' hk hb; (try clear m0 m1 m2 m3 m4 m5 g0 g1); obtain ⟨m0, m1, m2, m3, m4, m5⟩ := blk6 (Ext.blk hk HB); have g0 := Ext.cell hk G0; have g1 := Ext.cell hk G1)
      | (go_at_call 35; (with_reducible refine (cL1.out _ hk).mono ?_); rintro e w2 ⟨rfl, hb⟩; have hk := Ext.trans' hk hb; (try clear m0 m1 m2 m3 m4 m5 g0 g1); obtain ⟨m0, m1, m2, m3, m4, m5⟩ := blk6 (Ext.blk hk HB); have g0 := Ext.cell hk G0; have g1 := Ext.cell hk G1)
      | (go_at_call 20; (with_reducible refine (cN0.out _ hk).mono ?_); rintro e w2 ⟨rfl, hb⟩; have hk := Ext.trans' hk hb; (try clear m0 m1 m2 m3 m4 m5 g0 g1); obtain ⟨m0, m1, m2, m3, m4, m5⟩ := blk6 (Ext.blk hk HB); have g0 := Ext.cell hk G0; have g1 := Ext.cell hk G1)
      | (go_at_call 20; (with_reducible refine (cN1.out _ hk).mono ?_); rintro e w2 ⟨rfl, hb⟩; have hk := Ext.trans' hk hb; (try clear m0 m1 m2 m3 m4 m5 g0 g1); obtain ⟨m0, m1, m2, m3, m4, m5⟩ := blk6 (Ext.blk hk HB); have g0 := Ext.cell hk G0; have g1 := Ext.cell hk G1)
      | (go_at_call 21; (with_reducible refine (cC0.out _ hk).mono ?_); rintro e w2 ⟨rfl, hb⟩; have hk := Ext.trans' hk hb; (try clear m0 m1 m2 m3 m4 m5 g0 g1); obtain ⟨m0, m1, m2, m3, m4, m5⟩ := blk6 (Ext.blk hk HB); have g0 := Ext.cell hk G0; have g1 := Ext.cell hk G1)
      | (go_at_call 21; (with_reducible refine (cC1.out _ hk).mono ?_); rintro e w2 ⟨rfl, hb⟩; have hk := Ext.trans' hk hb; (try clear m0 m1 m2 m3 m4 m5 g0 g1); obtain ⟨m0, m1, m2, m3, m4, m5⟩ := blk6 (Ext.blk hk HB); have g0 := Ext.cell hk G0; have g1 := Ext.cell hk G1)
      | (go_at_call 33; (with_reducible refine (cY0.out _ hk).mono ?_); rintro e w2 ⟨rfl, hb⟩; have hk := Ext.trans' hk hb; (try clear m0 m1 m2 m3 m4 m5 g0 g1); obtain ⟨m0, m1, m2, m3, m4, m5⟩ := blk6 (Ext.blk hk HB); have g0 := Ext.cell hk G0; have g1 := Ext.cell hk G1)
      | (go_at_call 33; (with_reducible refine (cY1.out _ hk).mono ?_); rintro e w2 ⟨rfl, hb⟩; have hk := Ext.trans' hk hb; (try clear m0 m1 m2 m3 m4 m5 g0 g1); obtain ⟨m0, m1, m2, m3, m4, m5⟩ := blk6 (Ext.blk hk HB); have g0 := Ext.cell hk G0; have g1 := Ext.cell hk G1)
      | (go_at_call 11; (with_reducible refine (ck.out _ hk).mono ?_); rintro e w2 ⟨rfl, hb⟩; have hk := Ext.trans' hk hb)))
    go_ret
    exact ⟨rfl, Ext.trans' HX.out hk⟩
end Go.Proofs.YtapngkjgagapeaaDoor
