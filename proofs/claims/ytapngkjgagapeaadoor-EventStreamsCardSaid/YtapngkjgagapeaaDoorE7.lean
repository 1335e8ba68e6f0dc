
import Derived.Test.YtapngkjgagapeaaDoorE6
/- Contracts of the texts of entries: Text of package entry and of its reference. -/
namespace Go.Proofs.YtapngkjgagapeaaDoor
open Go.RowKit

def sp : ByteArray := ⟨#[32]⟩
theorem text_cat (k l : List UInt8) (d b : Nat) : digs b ++ ⟨#[32]⟩ ++ txt d ++ ⟨#[32]⟩ ++ ⟨(hexL k).toArray⟩ ++ ⟨#[32]⟩ ++ ⟨(hexL l).toArray⟩ = (⟨(Ent.text ⟨k, l, d, b⟩).toArray⟩ : ByteArray) := by
  apply ByteArray.ext
  apply Array.ext'
  simp [Ent.text, digs, txt, ByteArray.data_append, List.append_assoc]
theorem hexB_size (l : List UInt8) (n : Nat) (h : l.length ≤ n) : (⟨(hexL l).toArray⟩ : ByteArray).size ≤ 2 * n + 1 := by
  have := hexL_len l
  show (hexL l).toArray.size ≤ _
  simp; omega

set_option maxRecDepth 100000 in
set_option maxHeartbeats 4000000 in
theorem etext_ok (k : ByteArray) (v : Value) (l : List UInt8) (d b : Nat) (w : World) (hk : k.size ≤ 100000) (hl : l.length ≤ 100000) (hd : d < 18446744073709551616) (hb : b < 18446744073709551616) (hf : chk k.size l.length b = 0) (hv : By w v l) (ht : Tabs w) :
    Calls Tryd.prog 65 #[.agg #[.string k, v, .int .u64 d, .int .u64 b]] w fun e w' => e = .returned (.tuple #[.string ⟨(Ent.text ⟨k.data.toList, l, d, b⟩).toArray⟩, .int .i64 0]) ∧ Ext w w' := by
  obtain ⟨a, c, rfl, hn⟩ := hv.size
  have c0 : Box _ := ⟨fun w => check_any k a l.length c b w (by omega) hn hb⟩
  rw [hf] at c0
  have c1 : Box (∀ w', Ext w w' → _) := ⟨fun w' h => formatUint_any b w' hb (ht.ext h)⟩
  have c2 : Box (∀ w', Ext w w' → _) := ⟨fun w' h => text_any d w' hd (ht.ext h)⟩
  have c3 : Box _ := ⟨fun w' => codeS_any k w' hk⟩
  have c4 : Box (∀ w', Ext w w' → _) := ⟨fun w' h => codeB_any (.slice a l.length c) l w' (hv.ext h) hl⟩
  rw [← text_cat]
  have s1 := digs_size b hb
  have s2 := txt_size d hd
  have s3 := hexB_size k.data.toList 100000 hk
  have s4 := hexB_size l 100000 hl
  have hx : Ext w (w.alloc (.cells #[.string k, .slice a l.length c, .int .u64 d, .int .u64 b] 83)) := Ext.alloc (Below.refl _ _) _
  have hB := newblk w (.cells #[.string k, .slice a l.length c, .int .u64 d, .int .u64 b] 83)
  generalize digs b = x1 at *
  generalize txt d = x2 at *
  generalize (⟨(hexL k.data.toList).toArray⟩ : ByteArray) = x3 at *
  generalize (⟨(hexL l).toArray⟩ : ByteArray) = x4 at *
  have g1 : ¬ 9223372036854775807 < x1.size + 1 := by omega
  have g2 : ¬ 9223372036854775807 < x1.size + 1 + x2.size := by omega
  have g3 : ¬ 9223372036854775807 < x1.size + 1 + x2.size + 1 := by omega
  have g4 : ¬ 9223372036854775807 < x1.size + 1 + x2.size + 1 + x3.size := by omega
  have g5 : ¬ 9223372036854775807 < x1.size + 1 + x2.size + 1 + x3.size + 1 := by omega
  have g6 : ¬ 9223372036854775807 < x1.size + 1 + x2.size + 1 + x3.size + 1 + x4.size := by omega
  clear hf hv ht hk hl hd hb
  go_enter Tryd.func65, Tryd.ntmps65
  go_wp2_with (first
    | (go_at_call 64; (with_reducible refine (c0.out _).mono ?_); rintro e w1 ⟨rfl, hb1⟩; have hx := Ext.trans' hx hb1; have hB := Ext.blk hb1 hB))
  obtain ⟨m0, m1, m2, m3, _⟩ := blk4 hB
  go_region_held3 (fun w' => w'.cell? ⟨w.heap.size, 0, none⟩ = some (.string k) ∧ w'.cell? ⟨w.heap.size, 1, none⟩ = some (.slice a l.length c) ∧ w'.cell? ⟨w.heap.size, 2, none⟩ = some (.int .u64 d) ∧ w'.cell? ⟨w.heap.size, 3, none⟩ = some (.int .u64 b))
    (first
      | go_keep
      | (exact ⟨m0, m1, m2, m3⟩))
    (first
      | (go_at_call 75; refine (c1.out _ (Ext.drewN hx 1)).mono ?_; rintro e w1 ⟨rfl, hb1⟩; have hx := Ext.trans' (Ext.drewN hx 1) hb1; have hB := Ext.blk hb1 hB; obtain ⟨m0, m1, m2, m3, _⟩ := blk4 hB)
      | (go_at_call 66; refine (c2.out _ hx).mono ?_; rintro e w1 ⟨rfl, hb1⟩; have hx := Ext.trans' hx hb1; have hB := Ext.blk hb1 hB; obtain ⟨m0, m1, m2, m3, _⟩ := blk4 hB)
      | (go_at_call 76; refine (c3.out _).mono ?_; rintro e w1 ⟨rfl, hb1⟩; have hx := Ext.trans' hx hb1; have hB := Ext.blk hb1 hB; obtain ⟨m0, m1, m2, m3, _⟩ := blk4 hB)
      | (go_at_call 77; refine (c4.out _ hx).mono ?_; rintro e w1 ⟨rfl, hb1⟩; have hx := Ext.trans' hx hb1; have hB := Ext.blk hb1 hB; obtain ⟨m0, m1, m2, m3, _⟩ := blk4 hB))
  all_goals
    clear hB
    go_wp2
    go_ret2
    exact ⟨rfl, hx⟩
end Go.Proofs.YtapngkjgagapeaaDoor
