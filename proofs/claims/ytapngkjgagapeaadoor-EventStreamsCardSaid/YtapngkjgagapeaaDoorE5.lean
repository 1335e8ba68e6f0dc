import Derived.Test.YtapngkjgagapeaaDoorE4
import Derived.Test.YtapngkjgagapeaaDoorTF
/- The digits of bytes: code of package entry, Hex of its reference. -/
namespace Go.Proofs.YtapngkjgagapeaaDoor
open Go.RowKit

abbrev hexS : ByteArray := ⟨#[48, 49, 50, 51, 52, 53, 54, 55, 56, 57, 97, 98, 99, 100, 101, 102]⟩
theorem lt16 (n : Nat) (h : n < 16) : n = 0 ∨ n = 1 ∨ n = 2 ∨ n = 3 ∨ n = 4 ∨ n = 5 ∨ n = 6 ∨ n = 7 ∨ n = 8 ∨ n = 9 ∨ n = 10 ∨ n = 11 ∨ n = 12 ∨ n = 13 ∨ n = 14 ∨ n = 15 := by omega
theorem hexS_at (n : Nat) (h : n < 16) (h' : n < hexS.size) : hexS[n]'h' = hexD n := by
  rcases lt16 n h with rfl | rfl | rfl | rfl | rfl | rfl | rfl | rfl | rfl | rfl | rfl | rfl | rfl | rfl | rfl | rfl <;> rfl
theorem index_hex (n : Nat) (h : n < 16) (w : World) : (Instr.index 9 (.string hexS) (.int .u8 n)).run Tryd.prog w = .ok (.int .u8 ((hexD n).toNat : Int)) w := by
  rcases lt16 n h with rfl | rfl | rfl | rfl | rfl | rfl | rfl | rfl | rfl | rfl | rfl | rfl | rfl | rfl | rfl | rfl <;> kernel_rfl
theorem and15 (b : Nat) (h : b < 256) : bits BinOp.and IntKind.u8 (b : Int) 15 = ((b % 16 : Nat) : Int) := by
  have := u8_and_nat b 15 h (by decide)
  rw [show b &&& 15 = b % 16 from Nat.and_two_pow_sub_one_eq_mod b 4] at this
  exact this
theorem byteCells_hex (l : List UInt8) (b : UInt8) : Lib.byteCells (hexP l) ++ [.int .u8 ((hexD (b.toNat / 16)).toNat : Int)] ++ [.int .u8 ((hexD (b.toNat % 16)).toNat : Int)] = Lib.byteCells (hexP (l ++ [b])) := by
  rw [hexP_snoc]; simp [Lib.byteCells]

set_option maxHeartbeats 2000000 in
set_option maxRecDepth 100000 in
theorem codeS_any (s : ByteArray) (w : World) (hs : s.size ≤ 100000) :
    Calls Tryd.prog 76 #[.string s] w fun e w' => e = .returned (.string ⟨(hexL s.data.toList).toArray⟩) ∧ Ext w w' := by
  by_cases h0 : s.size = 0
  · rw [str_empty s h0]
    go_enter Tryd.func76, Tryd.ntmps76
    go_wp2
    go_ret
    exact ⟨rfl, Below.refl _ _⟩
  · have hl : hexL s.data.toList = hexP s.data.toList := by
      unfold hexL
      rw [if_neg (fun e => h0 (by rw [← lst_len, e]; rfl))]
    rw [hl]
    have e1 : ((s.size : Int) == 0) = false := by rw [beq_eq_false_iff_ne]; omega
    have hbn : Lib.IsBuilder 98 5 w.heap.size w.heap.size (Lib.byteCells (hexP (s.data.toList.take 0))) (w.alloc (.cells #[.pointer none, .slice none 0 0] 98)) := by
      refine Or.inl ⟨Nat.le_refl _, .slice none 0 0, newblk _ _, World.ownsRow_nil _ _ _ _, by simp [Value.ownBlock]⟩
    have HB := Box.mk hbn
    clear h0 hl hbn
    go_enter Tryd.func76, Tryd.ntmps76
    go_wp2
    go_loopw [4, 10] (fun v i wr => ∃ k : Nat, k ≤ s.size ∧ i = .int .i64 k ∧ Lib.IsBuilder 98 5 w.heap.size w.heap.size (Lib.byteCells (hexP (s.data.toList.take k))) wr ∧ Ext w wr ∧ w.heap.size < wr.heap.size) (fun _ i _ => s.size - (intOf i).toNat)
    case atStart => exact ⟨0, by omega, rfl, HB.out, Ext.alloc (Below.refl _ _) _, by simp⟩
    case round =>
      obtain ⟨k, hk, rfl, hbd, hx, hz⟩ := hrel
      by_cases hlt : k < s.size
      · have hb : s[k].toNat < 256 := s[k].toNat_lt
        have hb0 : (s[k].toNat : Int) < 256 := by omega
        have q1 : s[k].toNat / 16 < hexS.size := by show _ < 16; omega
        have q2 : s[k].toNat % 16 < hexS.size := by show _ < 16; omega
        have a1 := and15 s[k].toNat hb
        have hcells : Box (Lib.byteCells (hexP (s.data.toList.take k)) ++ [.int .u8 ((hexS[s[k].toNat / 16]'q1).toNat : Int)] ++ [.int .u8 ((hexS[s[k].toNat % 16]'q2).toNat : Int)] = Lib.byteCells (hexP (s.data.toList.take (k + 1)))) := ⟨by rw [hexS_at _ (by omega), hexS_at _ (by omega), byteCells_hex, List.take_succ_eq_append_getElem (by exact hlt)]; try rfl⟩
        have hlen : (Lib.byteCells (hexP (s.data.toList.take k))).length ≤ 200000 := by
          simp [Lib.byteCells, hexP_len]; omega
        have hix : ∀ w, (Instr.index 9 (.string s) (.int .i64 k)).run Tryd.prog w = .ok (.int .u8 (s[k].toNat : Int)) w := fun w => by go_simp
        generalize s[k].toNat = b at *
        generalize Lib.byteCells (hexP (s.data.toList.take k)) = cs at *
        have hc1 : Box (∀ wr, Lib.IsBuilder 98 5 w.heap.size w.heap.size cs wr → w.heap.size < wr.heap.size → _) := ⟨fun wr h1 h2 => writeByte_any w.heap.size w.heap.size cs ((hexS[b / 16]'q1).toNat : Int) wr h1 (by omega) (by omega)⟩
        have hc2 : Box (∀ wr, Lib.IsBuilder 98 5 w.heap.size w.heap.size (cs ++ [.int .u8 ((hexS[b / 16]'q1).toNat : Int)]) wr → w.heap.size < wr.heap.size → _) := ⟨fun wr h1 h2 => writeByte_any w.heap.size w.heap.size (cs ++ [.int .u8 ((hexS[b / 16]'q1).toNat : Int)]) ((hexS[b % 16]'q2).toNat : Int) wr h1 (by simp; omega) (by omega)⟩
        go_wp2_with (first
          | (go_at_call 58; (with_reducible refine (hc1.out _ hbd hz).mono ?_); rintro e w1 ⟨rfl, hbd, hb1⟩; have hx := Below.trans hx hb1; have hz := Nat.lt_of_lt_of_le hz hb1.size)
          | (go_at_call 58; (with_reducible refine (hc2.out _ hbd hz).mono ?_); rintro e w1 ⟨rfl, hbd, hb1⟩; have hx := Below.trans hx hb1; have hz := Nat.lt_of_lt_of_le hz hb1.size))
        go_roundw
        case rel => exact ⟨k + 1, by omega, by go_num, by rw [← hcells.out]; exact hbd, hx, hz⟩
        case measure => simp [intOf]; omega
      · obtain rfl : k = s.size := by omega
        rw [List.take_of_length_le (Nat.le_of_eq (lst_len s))] at hbd
        have hc := Box.mk (Tryd.Builder_String_any w.heap.size w.heap.size (hexP s.data.toList) wr hbd (by omega))
        clear hbd
        go_wp2_with (first | (go_at_call 59; (with_reducible refine hc.out.mono ?_); rintro e w1 ⟨rfl, hb1⟩; have hx := Below.trans hx hb1))
        go_ret
        exact ⟨rfl, hx⟩
set_option maxHeartbeats 2000000 in
set_option maxRecDepth 100000 in
theorem codeB_any (v : Value) (l : List UInt8) (w : World) (hv : By w v l) (hs : l.length ≤ 100000) :
    Calls Tryd.prog 77 #[v] w fun e w' => e = .returned (.string ⟨(hexL l).toArray⟩) ∧ Ext w w' := by
  obtain ⟨a, c, rfl, _, hlc, hcm, hcells⟩ := hv
  by_cases h0 : l.length = 0
  · obtain rfl : l = [] := List.eq_nil_of_length_eq_zero h0
    go_enter Tryd.func77, Tryd.ntmps77
    go_wp2
    go_ret
    exact ⟨rfl, Below.refl _ _⟩
  · have hl : hexL l = hexP l := by
      unfold hexL
      rw [if_neg (fun e => h0 (by rw [e]; rfl))]
    rw [hl]
    have e1 : ((l.length : Int) == 0) = false := by rw [beq_eq_false_iff_ne]; omega
    have hbn : Lib.IsBuilder 98 5 w.heap.size w.heap.size (Lib.byteCells (hexP (l.take 0))) (w.alloc (.cells #[.pointer none, .slice none 0 0] 98)) := by
      refine Or.inl ⟨Nat.le_refl _, .slice none 0 0, newblk _ _, World.ownsRow_nil _ _ _ _, by simp [Value.ownBlock]⟩
    obtain ⟨bb, o, rfl, hc0⟩ := hcells (by omega)
    have HC := Box.mk hc0
    have HB := Box.mk hbn
    clear h0 hl hbn hcells hc0
    go_enter Tryd.func77, Tryd.ntmps77
    go_wp2
    go_loopw [4, 10] (fun v i wr => ∃ k : Nat, k ≤ l.length ∧ i = .int .i64 k ∧ Lib.IsBuilder 98 5 w.heap.size w.heap.size (Lib.byteCells (hexP (l.take k))) wr ∧ Ext w wr ∧ w.heap.size < wr.heap.size) (fun _ i _ => l.length - (intOf i).toNat)
    case atStart => exact ⟨0, by omega, rfl, HB.out, Ext.alloc (Below.refl _ _) _, by simp⟩
    case round =>
      obtain ⟨k, hk, rfl, hbd, hx, hz⟩ := hrel
      by_cases hlt : k < l.length
      · have hb : l[k].toNat < 256 := l[k].toNat_lt
        have hb0 : (l[k].toNat : Int) < 256 := by omega
        have q1 : l[k].toNat / 16 < hexS.size := by show _ < 16; omega
        have q2 : l[k].toNat % 16 < hexS.size := by show _ < 16; omega
        have a1 := and15 l[k].toNat hb
        have hcells : Box (Lib.byteCells (hexP (l.take k)) ++ [.int .u8 ((hexS[l[k].toNat / 16]'q1).toNat : Int)] ++ [.int .u8 ((hexS[l[k].toNat % 16]'q2).toNat : Int)] = Lib.byteCells (hexP (l.take (k + 1)))) := ⟨by rw [hexS_at _ (by omega), hexS_at _ (by omega), byteCells_hex, List.take_succ_eq_append_getElem (by exact hlt)]; try rfl⟩
        have hlen : (Lib.byteCells (hexP (l.take k))).length ≤ 200000 := by
          simp [Lib.byteCells, hexP_len]; omega
        have hcl : Box (w.cell? ⟨bb, o + k, none⟩ = some (.int .u8 (l[k].toNat : Int))) := ⟨by rw [HC.out k hlt, nums_getD l k hlt]⟩
        have cl := hx.cell hcl.out
        generalize l[k].toNat = b at *
        generalize Lib.byteCells (hexP (l.take k)) = cs at *
        have hc1 : Box (∀ wr, Lib.IsBuilder 98 5 w.heap.size w.heap.size cs wr → w.heap.size < wr.heap.size → _) := ⟨fun wr h1 h2 => writeByte_any w.heap.size w.heap.size cs ((hexS[b / 16]'q1).toNat : Int) wr h1 (by omega) (by omega)⟩
        have hc2 : Box (∀ wr, Lib.IsBuilder 98 5 w.heap.size w.heap.size (cs ++ [.int .u8 ((hexS[b / 16]'q1).toNat : Int)]) wr → w.heap.size < wr.heap.size → _) := ⟨fun wr h1 h2 => writeByte_any w.heap.size w.heap.size (cs ++ [.int .u8 ((hexS[b / 16]'q1).toNat : Int)]) ((hexS[b % 16]'q2).toNat : Int) wr h1 (by simp; omega) (by omega)⟩
        go_wp2_with (first
          | (go_at_call 58; (with_reducible refine (hc1.out _ hbd hz).mono ?_); rintro e w1 ⟨rfl, hbd, hb1⟩; have hx := Below.trans hx hb1; have cl := Ext.cell hx hcl.out; have hz := Nat.lt_of_lt_of_le hz hb1.size)
          | (go_at_call 58; (with_reducible refine (hc2.out _ hbd hz).mono ?_); rintro e w1 ⟨rfl, hbd, hb1⟩; have hx := Below.trans hx hb1; have cl := Ext.cell hx hcl.out; have hz := Nat.lt_of_lt_of_le hz hb1.size))
        go_roundw
        case rel => exact ⟨k + 1, by omega, by go_num, by rw [← hcells.out]; exact hbd, hx, hz⟩
        case measure => simp [intOf]; omega
      · obtain rfl : k = l.length := by omega
        rw [List.take_of_length_le (Nat.le_refl _)] at hbd
        have hc := Box.mk (Tryd.Builder_String_any w.heap.size w.heap.size (hexP l) wr hbd (by omega))
        clear hbd
        go_wp2_with (first | (go_at_call 59; (with_reducible refine hc.out.mono ?_); rintro e w1 ⟨rfl, hb1⟩; have hx := Below.trans hx hb1))
        go_ret
        exact ⟨rfl, hx⟩
end Go.Proofs.YtapngkjgagapeaaDoor
