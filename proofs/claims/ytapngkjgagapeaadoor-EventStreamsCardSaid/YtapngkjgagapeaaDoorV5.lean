import Derived.Test.YtapngkjgagapeaaDoorV4
/- Contracts of Text of package event. -/
namespace Go.Proofs.YtapngkjgagapeaaDoor
open Go.RowKit

theorem okV_parts {k : Int} {n m b d t : Nat} (h : okV k n m b d t = true) : (∃ j : Nat, k = j ∧ 1 ≤ j ∧ j ≤ 5) ∧ chk n m b = 0 := by
  unfold okV at h
  simp only [Bool.and_eq_true] at h
  refine ⟨kB_nat k h.1.1, ?_⟩
  have := h.1.2
  unfold fineN at this
  simpa using this
set_option maxHeartbeats 4000000 in
theorem vtext_bad (k : Int) (s : ByteArray) (a : Option Addr) (n c b d t : Nat) (w : World) (hs : s.size ≤ 9223372036854775807) (hn : n ≤ 9223372036854775807) (hb : b < 18446744073709551616) (hd : d < 18446744073709551616) (ht : t < 18446744073709551616) (hk : okV k s.size n b d t = false) :
    Calls Tryd.prog 45 #[(.agg #[.int .i64 (k), .string s, .slice a (n) c, .int .u64 (b), .int .u64 (d), .int .u64 (t)])] w fun e w' => e = .returned (.tuple #[.string ⟨#[]⟩, .int .i64 2]) ∧ Ext w w' := by
  have c1 : Box _ := ⟨fun w => vvalid_any k s a n c b d t w hs hn hb hd ht⟩
  rw [hk] at c1
  have hx : Ext w (w.alloc (.cells #[.int .i64 (k), .string s, .slice a (n) c, .int .u64 (b), .int .u64 (d), .int .u64 (t)] 28)) := Ext.alloc (Below.refl _ _) _
  clear hk
  go_enter Tryd.func45, Tryd.ntmps45
  go_wp2_with (first | (go_at_call 14; (with_reducible refine (c1.out _).mono ?_); rintro e w1 ⟨rfl, hb⟩; have hx := Ext.trans' hx hb))
  go_ret2
  exact ⟨rfl, hx⟩
set_option maxRecDepth 100000 in
set_option maxHeartbeats 4000000 in
theorem vtext_ok (k : Int) (s : ByteArray) (a : Option Addr) (l : List UInt8) (c b d t : Nat) (w : World) (hs : s.size ≤ 100000) (hl : l.length ≤ 100000) (hb : b < 18446744073709551616) (hd : d < 18446744073709551616) (ht : t < 18446744073709551616) (hk : okV k s.size l.length b d t = true) (hv : By w (.slice a l.length c) l) (hw : EnvV w) :
    Calls Tryd.prog 45 #[(.agg #[.int .i64 (k), .string s, .slice a (l.length) c, .int .u64 (b), .int .u64 (d), .int .u64 (t)])] w fun e w' => e = .returned (.tuple #[.string ⟨(Evt.text ⟨k.toNat, ⟨s.data.toList, l, d, b⟩, t⟩).toArray⟩, .int .i64 0]) ∧ Ext w w' := by
  have c1 : Box _ := ⟨fun w => vvalid_any k s a l.length c b d t w (by omega) (by omega) hb hd ht⟩
  rw [hk] at c1
  obtain ⟨⟨j, rfl, h1, h5⟩, hc⟩ := okV_parts hk
  have c2 : Box _ := ⟨fun w => of_any (j : Int) s a l.length c b d t w⟩
  have c3 : Box (∀ w', Ext w w' → _) := ⟨fun w' h => etext_ok s (.slice a l.length c) l d b w' hs hl hd hb hc (hv.ext h) (hw.ext h).env.tabs⟩
  have c4 : Box (∀ w', Ext w w' → _) := ⟨fun w' h => text_any t w' ht (hw.ext h).env.tabs⟩
  have cw : Box (∀ w', Ext w w' → _) := ⟨fun w' h => (hw.ext h).word j (by omega)⟩
  rw [Int.toNat_natCast, ← vtext_cat2]
  have s1 := txt_size t ht
  have s2 := wordS_size j
  have s3 : (⟨(Ent.text ⟨s.data.toList, l, d, b⟩).toArray⟩ : ByteArray).size ≤ 400045 := by
    have h := Ent.text_len ⟨s.data.toList, l, d, b⟩ ⟨by unfold never; show d ≤ _; omega, by unfold never; show b ≤ _; omega⟩
    have h2 : s.data.toList.length = s.size := rfl
    show (Ent.text ⟨s.data.toList, l, d, b⟩).toArray.size ≤ _
    rw [List.size_toArray]
    simp only [h2] at h
    omega
  have hx : Ext w (w.alloc (.cells #[.int .i64 (j), .string s, .slice a (l.length) c, .int .u64 (b), .int .u64 (d), .int .u64 (t)] 28)) := Ext.alloc (Below.refl _ _) _
  have hB := newblk w (.cells #[.int .i64 (j), .string s, .slice a (l.length) c, .int .u64 (b), .int .u64 (d), .int .u64 (t)] 28)
  obtain ⟨m0, m1, m2, m3, m4, m5⟩ := blk6 hB
  have h6 : j < 6 := by omega
  have h7 : (j : Int) < 6 := by omega
  generalize txt t = x1 at *
  generalize wordS j = x2 at *
  generalize (⟨(Ent.text ⟨s.data.toList, l, d, b⟩).toArray⟩ : ByteArray) = x3 at *
  have g1 : ¬ 9223372036854775807 < x1.size + 1 := by omega
  have g2 : ¬ 9223372036854775807 < x1.size + 1 + x2.size := by omega
  have g3 : ¬ 9223372036854775807 < x1.size + 1 + x2.size + 1 := by omega
  have g4 : ¬ 9223372036854775807 < x1.size + 1 + x2.size + 1 + x3.size := by omega
  clear hk hc hw hv h1 h5
  go_enter Tryd.func45, Tryd.ntmps45
  go_wp2_with (first
    | (go_at_call 14; (with_reducible refine (c1.out _).mono ?_); rintro e w1 ⟨rfl, hb⟩; (try clear m0 m1 m2 m3 m4 m5); have hx := Ext.trans' hx hb; have hB := Ext.blk hb hB; obtain ⟨m0, m1, m2, m3, m4, m5⟩ := blk6 hB)
    | (go_at_call 43; (with_reducible refine (c2.out _).mono ?_); rintro e w1 ⟨rfl, hb⟩; (try clear m0 m1 m2 m3 m4 m5); have hx := Ext.trans' hx hb; have hB := Ext.blk hb hB; obtain ⟨m0, m1, m2, m3, m4, m5⟩ := blk6 hB)
    | (go_at_call 65; (with_reducible refine (c3.out _ hx).mono ?_); rintro e w1 ⟨rfl, hb⟩; (try clear m0 m1 m2 m3 m4 m5); have hx := Ext.trans' hx hb; have hB := Ext.blk hb hB; obtain ⟨m0, m1, m2, m3, m4, m5⟩ := blk6 hB))
  have q0 := cw.out _ (Ext.drew1 hx)
  have hx := Ext.drew1 hx
  have hB := Ext.blk (Ext.drew1 (Below.refl _ _)) hB
  go_region_held3 (fun w' => w'.cell? ⟨w.heap.size, 0, none⟩ = some (.int .i64 (j)) ∧ w'.cell? ⟨w.heap.size, 1, none⟩ = some (.string s) ∧ w'.cell? ⟨w.heap.size, 2, none⟩ = some (.slice a (l.length) c) ∧ w'.cell? ⟨w.heap.size, 3, none⟩ = some (.int .u64 (b)) ∧ w'.cell? ⟨w.heap.size, 4, none⟩ = some (.int .u64 (d)) ∧ w'.cell? ⟨w.heap.size, 5, none⟩ = some (.int .u64 (t)) ∧ w'.cell? ⟨0, j, none⟩ = some (.string x2))
    (first | (exact ⟨m0, m1, m2, m3, m4, m5, q0⟩) | (exact ⟨m0, m1, m2, m3, m4, m5, cw.out _ hx⟩))
    (first | (go_at_call 66; (with_reducible refine (c4.out _ hx).mono ?_); rintro e w1 ⟨rfl, hb⟩; (try clear m0 m1 m2 m3 m4 m5); have hx := Ext.trans' hx hb; have hB := Ext.blk hb hB; obtain ⟨m0, m1, m2, m3, m4, m5⟩ := blk6 hB))
  go_wp2
  go_ret2
  exact ⟨rfl, hx⟩
end Go.Proofs.YtapngkjgagapeaaDoor
