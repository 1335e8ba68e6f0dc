
import Derived.Test.YtapngkjgagapeaaDoorE7
import Derived.Lib.ConvBytes
/- The reference's text of an entry; the text of an entry that is not valid. -/
namespace Go.Proofs.YtapngkjgagapeaaDoor
open Go.RowKit

set_option maxHeartbeats 1000000 in
theorem etext_bad (k : ByteArray) (v : Value) (l : List UInt8) (d b : Nat) (w : World) (hk : k.size ≤ 100000) (hb : b < 18446744073709551616) (hf : chk k.size l.length b ≠ 0) (hv : By w v l) :
    Calls Tryd.prog 65 #[.agg #[.string k, v, .int .u64 d, .int .u64 b]] w fun e w' => e = .returned (.tuple #[.string ⟨#[]⟩, .int .i64 (chk k.size l.length b)]) ∧ Ext w w' := by
  obtain ⟨a, c, rfl, hn⟩ := hv.size
  have c0 : Box _ := ⟨fun w => check_any k a l.length c b w (by omega) hn hb⟩
  have hx : Ext w (w.alloc (.cells #[.string k, .slice a l.length c, .int .u64 d, .int .u64 b] 83)) := Ext.alloc (Below.refl _ _) _
  have h1 : (chk k.size l.length b != 0) = true := by rw [bne_iff_ne]; exact hf
  generalize chk k.size l.length b = x at *
  clear hf hv
  go_enter Tryd.func65, Tryd.ntmps65
  go_wp2_with (first | (go_at_call 64; (with_reducible refine (c0.out _).mono ?_); rintro e w1 ⟨rfl, hb⟩; have hx := Ext.trans' hx hb))
  go_ret2
  exact ⟨rfl, hx⟩

theorem bytesWorld_by (w : World) (s : ByteArray) (c : Nat) (hs : s.size ≤ 100000) : By (Lib.bytesWorld w 5 s) (.slice (some ⟨w.heap.size, 0, none⟩) s.size c) s.data.toList := by
  refine ⟨_, _, rfl, by rw [lst_len]; omega, trivial, trivial, fun h0 => ⟨_, 0, rfl, fun i hi => ?_⟩⟩
  rw [Nat.zero_add, Lib.bytesWorld_cell w _ s i hi, nums_getD _ _ hi, List.getD_eq_getElem?_getD, List.getElem?_eq_getElem hi]
  rfl
set_option maxRecDepth 100000 in
theorem conv_str (w : World) (s : ByteArray) : (convert 9 24 (.string s)).run Tryd.prog w = .ok (.slice (some ⟨w.heap.size, 0, none⟩) s.size (grownCap w s.size 0 5)) (Lib.bytesWorld w 5 s) :=
  Lib.run_convert_string_bytes w _ _ _ s Tryd.underlying9 Tryd.underlying24 Tryd.underlying5
theorem Ext.bytes {w0 w : World} (h : Ext w0 w) (s : ByteArray) : Ext w0 (Lib.bytesWorld w 5 s) := Ext.trans' h (Joins.below_bytesWorld _ _ _ _ (Nat.le_refl _))

/-- The conversion of the reference's Text, named: the walk of the region leaves it whole till its turn comes. -/
def cvOp : Op := Op.convert 9 24 (Operand.tmp 13)

end Go.Proofs.YtapngkjgagapeaaDoor
