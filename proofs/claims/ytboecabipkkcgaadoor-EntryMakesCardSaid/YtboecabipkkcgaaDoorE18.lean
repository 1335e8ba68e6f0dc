import Derived.Test.YtboecabipkkcgaaDoorE17
/- The laws' walks: EntryCosts, EntryTexts. -/
namespace Go.Proofs.YtboecabipkkcgaaDoor
open Go.RowKit

theorem nat_u64 {a : Int} (h : (Lit.int .u64 a).wf = true) : ∃ n : Nat, a = n ∧ n < 18446744073709551616 := by
  obtain ⟨h0, h1⟩ := wf_u64 h
  obtain ⟨n, rfl⟩ := Int.eq_ofNat_of_zero_le h0
  exact ⟨n, rfl, by omega⟩
/-- An entry that came in. -/
def EntArg (W : World) (v : Value) : Prop :=
  ∃ (k : ByteArray) (x : Value) (d b : Int), v = .agg #[.string k, x, .int .u64 d, .int .u64 b] ∧ k.size ≤ 9223372036854775807 ∧ IntsArg .u8 W x ∧ (Lit.int .u64 d).wf = true ∧ (Lit.int .u64 b).wf = true
theorem by_of_ints {W : World} {v : Value} (h : IntsArg .u8 W v) : ∃ a n c, v = .slice a n c ∧ n ≤ 9223372036854775807 ∧ (n ≤ 140737488355328 → ∃ l : List UInt8, l.length = n ∧ By W v l) := by
  obtain ⟨a, n, c, zs, rfl, hn, hnc, hc, hz, hcells⟩ := h
  refine ⟨a, n, c, rfl, by omega, fun hs => ⟨zs.map fun z => UInt8.ofNat z.toNat, by simpa using hn, ?_⟩⟩
  have hnum : nums (zs.map fun z => UInt8.ofNat z.toNat) = zs := by
    unfold nums
    rw [List.map_map]
    conv => rhs; rw [← List.map_id zs]
    apply List.map_congr_left
    intro z hm
    have := wf_u8 (hz z hm)
    simp; omega
  have hlen : (zs.map fun z => UInt8.ofNat z.toNat).length = n := by simpa using hn
  refine ⟨a, c, by rw [hlen], by omega, trivial, trivial, ?_⟩
  rw [hnum]
  intro h0
  have hz0 : 0 < zs.length := by rw [List.length_map] at h0; exact h0
  obtain ⟨b, o, ha, _⟩ := hcells 0 (.int .u8 zs[0]) (by simp [hz0])
  subst ha
  refine ⟨b, o, rfl, fun i hi => ?_⟩
  have hi' : i < zs.length := by rw [List.length_map] at hi; exact hi
  obtain ⟨b', o', ha, hcell⟩ := hcells i (.int .u8 zs[i]) (by simp [hi'])
  simp at ha
  obtain ⟨rfl, rfl⟩ := ha
  rw [hcell, List.getD_eq_getElem?_getD, List.getElem?_eq_getElem hi']; rfl

theorem newblk2 (w : World) (o1 o2 : Obj) : ((w.alloc o1).alloc o2).heap[w.heap.size + 1]? = some o2 := by
  have h := newblk (w.alloc o1) o2
  rw [show (w.alloc o1).heap.size = w.heap.size + 1 by simp] at h
  exact h
theorem newblk4 (w : World) (o1 o2 o3 : Obj) : (((w.alloc o1).alloc o2).alloc o3).heap[w.heap.size + 1 + 1]? = some o3 := by
  have h := newblk2 (w.alloc o1) o2 o3
  rw [show (w.alloc o1).heap.size = w.heap.size + 1 by simp] at h
  exact h

set_option maxRecDepth 100000 in
set_option maxHeartbeats 2000000 in
theorem lawEntryCosts_walk (s : ByteArray) (z : Int) (W : World) (hs : s.size ≤ maxLen) (w1 : (Lit.int .i64 z).wf = true) (ht : Env W) :
    Calls Tryd.prog 3 #[.string s, .int .i64 z] W fun e W' => e = .returned (.bool true) ∧ Below W.heap.size W W' := by
  unfold maxLen at hs
  have hz := wf_i64 w1
  have ck : Box (∀ w, Ext W w → Calls Tryd.prog 9 #[] w fun e w' => e = .returned (.bool true) ∧ Ext w w') := ⟨fun w h => known_any w (ht.ext h)⟩
  have hx : Ext W W := Below.refl _ _
  clear w1 ht
  by_cases h1 : s.size ≤ 600
  · by_cases h2 : z < 0
    · go_enter Tryd.func3, Tryd.ntmps3
      go_wp2_with (first | (go_at_call 9; (with_reducible refine (ck.out _ hx).mono ?_); rintro e w1 ⟨rfl, hb⟩; have hx := Ext.trans' hx hb))
      go_ret
      exact ⟨rfl, hx⟩
    · by_cases h3 : 66000 < z
      · go_enter Tryd.func3, Tryd.ntmps3
        go_wp2_with (first | (go_at_call 9; (with_reducible refine (ck.out _ hx).mono ?_); rintro e w1 ⟨rfl, hb⟩; have hx := Ext.trans' hx hb))
        go_ret
        exact ⟨rfl, hx⟩
      · obtain ⟨n, rfl⟩ := Int.eq_ofNat_of_zero_le (by omega : 0 ≤ z)
        obtain ⟨i0, hi, hz0, hz1, hz2⟩ := info_parts infoByte
        have c1 : Box _ := ⟨fun a w => refCost_any s a n n w (by omega) (by omega)⟩
        have c2 : Box _ := ⟨fun w => validKey_any s w (by omega)⟩
        have c3 : Box _ := ⟨fun w => refValidKey_any s w (by omega)⟩
        have c4 : Box _ := ⟨fun w => costs_any s n _ _ w (by omega) (by omega) rfl rfl⟩
        generalize costV s.size n = x at *
        generalize chk s.size n 1 = y at *
        generalize vk s.size = q at *
        go_enter Tryd.func3, Tryd.ntmps3
        go_wp2_with (first
          | (at_make; refine wpList_make_full _ rfl _ _ 25 rfl W.heap.size 5 i0 (.int .u8 0) 1 Tryd.underlying25 hi hz0 hz1 .i64 .i64 _ _ n rfl rfl rfl rfl (by rw [hz2]; omega) (by unfold maxLen; omega) (Nat.le_refl _) ?_; intro w1 hown hgrow; have hx := Below.grown hx hgrow (Nat.le_refl _) (fun j hj => by cases hj); clear hown)
          | (go_at_call 10; (with_reducible refine (c1.out _ _).mono ?_); rintro e w' ⟨rfl, rfl⟩)
          | (go_at_call 11; (with_reducible refine (c2.out _).mono ?_); rintro e w' ⟨rfl, rfl⟩)
          | (go_at_call 12; (with_reducible refine (c3.out _).mono ?_); rintro e w' ⟨rfl, rfl⟩)
          | (go_at_call 13; (with_reducible refine (c4.out _).mono ?_); rintro e w1 ⟨rfl, hb⟩; have hx := Ext.trans' hx hb)
          | (go_at_call 9; (with_reducible refine (ck.out _ hx).mono ?_); rintro e w1 ⟨rfl, hb⟩; have hx := Ext.trans' hx hb))
        go_ret
        exact ⟨rfl, hx⟩
  · go_enter Tryd.func3, Tryd.ntmps3
    go_wp2_with (first | (go_at_call 9; (with_reducible refine (ck.out _ hx).mono ?_); rintro e w1 ⟨rfl, hb⟩; have hx := Ext.trans' hx hb))
    go_ret
    exact ⟨rfl, hx⟩

set_option maxRecDepth 100000 in
set_option maxHeartbeats 4000000 in
theorem lawEntryTexts_walk (v : Value) (W : World) (hv : EntArg W v) (ht : Env W) :
    Calls Tryd.prog 4 #[v] W fun e W' => e = .returned (.bool true) ∧ Below W.heap.size W W' := by
  obtain ⟨k, x, d0, b0, rfl, hk, hxv, hd, hb⟩ := hv
  obtain ⟨d, rfl, ed⟩ := nat_u64 hd
  obtain ⟨b, rfl, eb⟩ := nat_u64 hb
  clear hd hb
  have hd := ed
  have hb := eb
  clear ed eb
  obtain ⟨a, n, c, rfl, hn, hby⟩ := by_of_ints hxv
  have ck : Box (∀ w, Ext W w → Calls Tryd.prog 9 #[] w fun e w' => e = .returned (.bool true) ∧ Ext w w') := ⟨fun w h => known_any w (ht.ext h)⟩
  have hx0 : Ext W ((W.alloc (.cells #[.string k, .slice a n c, .int .u64 d, .int .u64 b] 33)).alloc (.cells #[.string k, .slice a n c, .int .u64 d, .int .u64 b] 33)) := Ext.alloc (Ext.alloc (Below.refl _ _) _) _
  have hB : ((W.alloc (.cells #[.string k, .slice a n c, .int .u64 d, .int .u64 b] 33)).alloc (.cells #[.string k, .slice a n c, .int .u64 d, .int .u64 b] 33)).heap[W.heap.size]? = some (.cells #[.string k, .slice a n c, .int .u64 d, .int .u64 b] 33 (0, 0)) := Ext.blk (Ext.alloc (Below.refl _ _) _) (newblk W _)
  have cf : Box _ := ⟨few1_any k a n c d b _ (W.heap.size + 1) hk hn (newblk2 W (.cells #[.string k, .slice a n c, .int .u64 d, .int .u64 b] 33) _)⟩
  have hx := hx0
  clear hx0
  by_cases h1 : k.size ≤ 600
  · by_cases h2 : n ≤ 600
    · rw [show sm k.size n = true by unfold sm; simp [h1, h2]] at cf
      obtain ⟨l, hl, hl2⟩ := hby (by omega)
      subst hl
      have c1 : Box _ := ⟨fun w => refCheck_any k a l.length c b w (by omega) (by omega) hb⟩
      have c2 : Box (∀ w, Ext W w → _) := ⟨fun w hx => refEtext_any k (.slice a l.length c) l d b w (by omega) (by omega) hd hb (hl2.ext hx)⟩
      by_cases hc : chk k.size l.length b = 0
      · have c3 : Box (∀ w, Ext W w → _) := ⟨fun w hx => etext_ok k (.slice a l.length c) l d b w (by omega) (by omega) hd hb hc (hl2.ext hx) (ht.tabs.ext hx)⟩
        rw [hc] at c1
        generalize (⟨(Ent.text ⟨k.data.toList, l, d, b⟩).toArray⟩ : ByteArray) = T at *
        clear hc hl2 hby ht hxv
        go_enter Tryd.func4, Tryd.ntmps4
        go_wp2_with (first
          | (go_at_call 14; (with_reducible refine (cf.out).mono ?_); rintro e w1 ⟨rfl, hb⟩; have hx := Ext.trans' hx hb; have hB := Ext.blk hb hB; obtain ⟨m0, m1, m2, m3, _⟩ := blk4 hB)
          | (go_at_call 15; (with_reducible refine (c3.out _ hx).mono ?_); rintro e w1 ⟨rfl, hb⟩; have hx := Ext.trans' hx hb; have hB := Ext.blk hb hB; obtain ⟨m0, m1, m2, m3, _⟩ := blk4 hB)
          | (go_at_call 16; (with_reducible refine (c1.out _).mono ?_); rintro e w' ⟨rfl, rfl⟩)
          | (go_at_call 17; (with_reducible refine (c2.out _ hx).mono ?_); rintro e w1 ⟨rfl, hb⟩; have hx := Ext.trans' hx hb; have hB := Ext.blk hb hB; obtain ⟨m0, m1, m2, m3, _⟩ := blk4 hB)
          | (go_at_call 9; (with_reducible refine (ck.out _ hx).mono ?_); rintro e w1 ⟨rfl, hb⟩; have hx := Ext.trans' hx hb; have hB := Ext.blk hb hB; obtain ⟨m0, m1, m2, m3, _⟩ := blk4 hB))
        go_ret
        exact ⟨rfl, hx⟩
      · have c3 : Box (∀ w, Ext W w → _) := ⟨fun w hx => etext_bad k (.slice a l.length c) l d b w (by omega) hb hc (hl2.ext hx)⟩
        have e1 : (chk k.size l.length b != 0) = true := by rw [bne_iff_ne]; exact hc
        generalize chk k.size l.length b = y at *
        generalize (⟨(Ent.text ⟨k.data.toList, l, d, b⟩).toArray⟩ : ByteArray) = T at *
        clear hc hl2 hby ht hxv
        go_enter Tryd.func4, Tryd.ntmps4
        go_wp2_with (first
          | (go_at_call 14; (with_reducible refine (cf.out).mono ?_); rintro e w1 ⟨rfl, hb⟩; have hx := Ext.trans' hx hb; have hB := Ext.blk hb hB; obtain ⟨m0, m1, m2, m3, _⟩ := blk4 hB)
          | (go_at_call 15; (with_reducible refine (c3.out _ hx).mono ?_); rintro e w1 ⟨rfl, hb⟩; have hx := Ext.trans' hx hb; have hB := Ext.blk hb hB; obtain ⟨m0, m1, m2, m3, _⟩ := blk4 hB)
          | (go_at_call 16; (with_reducible refine (c1.out _).mono ?_); rintro e w' ⟨rfl, rfl⟩)
          | (go_at_call 17; (with_reducible refine (c2.out _ hx).mono ?_); rintro e w1 ⟨rfl, hb⟩; have hx := Ext.trans' hx hb; have hB := Ext.blk hb hB; obtain ⟨m0, m1, m2, m3, _⟩ := blk4 hB)
          | (go_at_call 9; (with_reducible refine (ck.out _ hx).mono ?_); rintro e w1 ⟨rfl, hb⟩; have hx := Ext.trans' hx hb; have hB := Ext.blk hb hB; obtain ⟨m0, m1, m2, m3, _⟩ := blk4 hB))
        go_ret
        exact ⟨rfl, hx⟩
    · rw [show sm k.size n = false by unfold sm; simp [h2]] at cf
      clear hby ht hxv
      go_enter Tryd.func4, Tryd.ntmps4
      go_wp2_with (first
        | (go_at_call 14; (with_reducible refine (cf.out).mono ?_); rintro e w1 ⟨rfl, hb⟩; have hx := Ext.trans' hx hb; have hB := Ext.blk hb hB; obtain ⟨m0, m1, m2, m3, _⟩ := blk4 hB)
        | (go_at_call 9; (with_reducible refine (ck.out _ hx).mono ?_); rintro e w1 ⟨rfl, hb⟩; have hx := Ext.trans' hx hb; have hB := Ext.blk hb hB; obtain ⟨m0, m1, m2, m3, _⟩ := blk4 hB))
      go_ret
      exact ⟨rfl, hx⟩
  · rw [show sm k.size n = false by unfold sm; simp [h1]] at cf
    clear hby ht hxv
    go_enter Tryd.func4, Tryd.ntmps4
    go_wp2_with (first
      | (go_at_call 14; (with_reducible refine (cf.out).mono ?_); rintro e w1 ⟨rfl, hb⟩; have hx := Ext.trans' hx hb; have hB := Ext.blk hb hB; obtain ⟨m0, m1, m2, m3, _⟩ := blk4 hB)
      | (go_at_call 9; (with_reducible refine (ck.out _ hx).mono ?_); rintro e w1 ⟨rfl, hb⟩; have hx := Ext.trans' hx hb; have hB := Ext.blk hb hB; obtain ⟨m0, m1, m2, m3, _⟩ := blk4 hB))
    go_ret
    exact ⟨rfl, hx⟩
end Go.Proofs.YtboecabipkkcgaaDoor
