import Derived.Test.YtboecabipkkcgaaDoorE7
import Derived.Lib.ConvBytes
/- The reference's text of an entry; the text of an entry that is not valid. -/
namespace Go.Proofs.YtboecabipkkcgaaDoor
open Go.RowKit

set_option maxHeartbeats 1000000 in
theorem etext_bad (k : ByteArray) (v : Value) (l : List UInt8) (d b : Nat) (w : World) (hk : k.size ≤ 100000) (hb : b < 18446744073709551616) (hf : chk k.size l.length b ≠ 0) (hv : By w v l) :
    Calls Tryd.prog 15 #[.agg #[.string k, v, .int .u64 d, .int .u64 b]] w fun e w' => e = .returned (.tuple #[.string ⟨#[]⟩, .int .i64 (chk k.size l.length b)]) ∧ Ext w w' := by
  obtain ⟨a, c, rfl, hn⟩ := hv.size
  have c0 : Box _ := ⟨fun w => check_any k a l.length c b w (by omega) hn hb⟩
  have hx : Ext w (w.alloc (.cells #[.string k, .slice a l.length c, .int .u64 d, .int .u64 b] 33)) := Ext.alloc (Below.refl _ _) _
  have h1 : (chk k.size l.length b != 0) = true := by rw [bne_iff_ne]; exact hf
  generalize chk k.size l.length b = x at *
  clear hf hv
  go_enter Tryd.func15, Tryd.ntmps15
  go_wp2_with (first | (go_at_call 31; (with_reducible refine (c0.out _).mono ?_); rintro e w1 ⟨rfl, hb⟩; have hx := Ext.trans' hx hb))
  go_ret2
  exact ⟨rfl, hx⟩

theorem bytesWorld_by (w : World) (s : ByteArray) (c : Nat) (hs : s.size ≤ 100000) : By (Lib.bytesWorld w 5 s) (.slice (some ⟨w.heap.size, 0, none⟩) s.size c) s.data.toList := by
  refine ⟨_, _, rfl, by rw [lst_len]; omega, trivial, trivial, fun h0 => ⟨_, 0, rfl, fun i hi => ?_⟩⟩
  rw [Nat.zero_add, Lib.bytesWorld_cell w _ s i hi, nums_getD _ _ hi, List.getD_eq_getElem?_getD, List.getElem?_eq_getElem hi]
  rfl
set_option maxRecDepth 100000 in
theorem conv_str (w : World) (s : ByteArray) : (convert 9 25 (.string s)).run Tryd.prog w = .ok (.slice (some ⟨w.heap.size, 0, none⟩) s.size (grownCap w s.size 0 5)) (Lib.bytesWorld w 5 s) :=
  Lib.run_convert_string_bytes w _ _ _ s Tryd.underlying9 Tryd.underlying25 Tryd.underlying5
theorem Ext.bytes {w0 w : World} (h : Ext w0 w) (s : ByteArray) : Ext w0 (Lib.bytesWorld w 5 s) := Ext.trans' h (Joins.below_bytesWorld _ _ _ _ (Nat.le_refl _))

/-- The conversion of the reference's Text, named: the walk of the region leaves it whole till its turn comes. -/
def cvOp : Op := Op.convert 9 25 (Operand.tmp 13)

set_option maxRecDepth 100000 in
set_option maxHeartbeats 4000000 in
theorem refEtext_any (k : ByteArray) (v : Value) (l : List UInt8) (d b : Nat) (w : World) (hk : k.size ≤ 100000) (hl : l.length ≤ 100000) (hd : d < 18446744073709551616) (hb : b < 18446744073709551616) (hv : By w v l) :
    Calls Tryd.prog 17 #[.agg #[.string k, v, .int .u64 d, .int .u64 b]] w fun e w' => e = .returned (.string ⟨(Ent.text ⟨k.data.toList, l, d, b⟩).toArray⟩) ∧ Ext w w' := by
  obtain ⟨a, c, rfl, hn⟩ := hv.size
  have c1 : Box _ := ⟨fun w' => number_any b w' hb⟩
  have c2 : Box _ := ⟨fun w' => refText_any d w' hd⟩
  have c3 : Box (∀ v' w', By w' v' k.data.toList → _) := ⟨fun v' w' h => refHex_any v' k.data.toList w' h hk⟩
  have c4 : Box (∀ w', Ext w w' → _) := ⟨fun w' h => refHex_any (.slice a l.length c) l w' (hv.ext h) hl⟩
  rw [← text_cat]
  have s1 := digs_size b hb
  have s2 := txt_size d hd
  have s3 := hexB_size k.data.toList 100000 hk
  have s4 := hexB_size l 100000 hl
  have hx : Ext w (w.alloc (.cells #[.string k, .slice a l.length c, .int .u64 d, .int .u64 b] 33)) := Ext.alloc (Below.refl _ _) _
  have hB := newblk w (.cells #[.string k, .slice a l.length c, .int .u64 d, .int .u64 b] 33)
  generalize digs b = x1 at *
  generalize txt d = x2 at *
  generalize (⟨(hexL k.data.toList).toArray⟩ : ByteArray) = x3 at *
  generalize (⟨(hexL l).toArray⟩ : ByteArray) = x4 at *
  have g1 : ¬ 9223372036854775807 < x1.size + 1 := by omega
  have g2 : ¬ 9223372036854775807 < x1.size + 1 + x2.size := by omega
  have g3 : ¬ 9223372036854775807 < x1.size + 1 + x2.size + 1 := by omega
  have g4 : ¬ 9223372036854775807 < x1.size + 1 + x2.size + 1 + x3.size := by omega
  have g5 : ¬ 9223372036854775807 < x1.size + 1 + x2.size + 1 + x3.size + 1 := by omega
  have g6 : ¬ 9223372036854775807 < x1.size + 1 + x2.size + 1 + x3.size + 1 + x4.size := by omega
  have HK := Box.mk hk
  clear hv hl hd hb hk
  go_enter Tryd.func17, Tryd.ntmps17
  go_wp2
  generalize w.alloc (.cells #[.string k, .slice a l.length c, .int .u64 d, .int .u64 b] 33) = W1 at *
  generalize w.heap.size = B at hB ⊢
  obtain ⟨c0, W2, hcv, hby, hx2⟩ : ∃ c0 W2, (convert 9 25 (.string k)).run Tryd.prog W1.drew = .ok (.slice (some ⟨W1.heap.size, 0, none⟩) k.size c0) W2 ∧ By W2 (.slice (some ⟨W1.heap.size, 0, none⟩) k.size c0) k.data.toList ∧ Ext W1 W2 :=
    ⟨_, _, conv_str W1.drew k, bytesWorld_by W1.drew k _ HK.out, Ext.bytes (Ext.drewN (Below.refl _ _) 1) k⟩
  have c3' := Box.mk (c3.out _ _ hby)
  have hx := Ext.trans' hx hx2
  obtain ⟨m0, m1, m2, m3, _⟩ := blk4 hB
  have hB2 := Ext.blk hx2 hB
  have n0 := blk4 hB2
  have N0 := Box.mk n0
  clear c3 hby hx2 n0
  rw [show Op.convert 9 25 (Operand.tmp 13) = cvOp from rfl]
  have hop : cvOp = Op.convert 9 25 (Operand.tmp 13) := rfl
  go_region_held3 (fun w' => w'.cell? ⟨B, 0, none⟩ = some (.string k) ∧ w'.cell? ⟨B, 1, none⟩ = some (.slice a l.length c) ∧ w'.cell? ⟨B, 2, none⟩ = some (.int .u64 d) ∧ w'.cell? ⟨B, 3, none⟩ = some (.int .u64 b))
    (first
      | (exact ⟨m0, m1, m2, m3⟩)
      | (exact ⟨N0.out.1, N0.out.2.1, N0.out.2.2.1, N0.out.2.2.2.1⟩))
    (first
      | (go_at_call 36; (with_reducible refine (c1.out _).mono ?_); rintro e w' ⟨rfl, rfl⟩)
      | (go_at_call 37; (with_reducible refine (c2.out _).mono ?_); rintro e w' ⟨rfl, rfl⟩)
      | (go_at_call 38; (with_reducible refine c3'.out.mono ?_); rintro e w1 ⟨rfl, hb1⟩; have hx := Ext.trans' hx hb1; have hB := Ext.blk hb1 hB2; obtain ⟨m0, m1, m2, m3, _⟩ := blk4 hB)
      | (go_at_call 38; (with_reducible refine (c4.out _ hx).mono ?_); rintro e w1 ⟨rfl, hb1⟩; have hx := Ext.trans' hx hb1; have hB := Ext.blk hb1 hB; obtain ⟨m0, m1, m2, m3, _⟩ := blk4 hB))
  all_goals
    clear hB
    go_wp2
    go_ret
    exact ⟨rfl, hx⟩
end Go.Proofs.YtboecabipkkcgaaDoor
