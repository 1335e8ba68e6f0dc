import Derived.Test.YtpojemlnhbdfmaaDoorG7
import Derived.Laws.StructEq
/- What the law's helpers return where they are handed what is right, and the examples of the chapter. -/
namespace Go.Proofs.YtpojemlnhbdfmaaDoor
open Go.RowKit

theorem cfg_struct : Tryd.prog.underlying 24 = some (.struct (Tryd.prog.fieldsOf 24)) ∧ Tryd.prog.stoodInHeld 24 = false ∧ Tryd.prog.eqGuardType Tryd.prog.depth 24 = false := ⟨by kernel_rfl, by kernel_rfl, by kernel_rfl⟩
theorem eqC (a b p : Int) (s : Nat) (t : Bool) (w : World) : (Op.equalIn 10000 24 (.agg #[.int .i64 a, .int .i64 b, .int .i64 p, .int .u64 s, .bool t]) (.agg #[.int .i64 a, .int .i64 b, .int .i64 p, .int .u64 s, .bool t])).run Tryd.prog w = .ok true w := by
  rw [show (10000 : Nat) = 9999 + 1 from rfl, run_equalIn_agg w 9999 24 _ _ cfg_struct.1 cfg_struct.2.1]
  simp only [Program.fieldsOf, Tryd.underlying24]
  go_simp
/-- A configuration's numbers are those of their types. -/
def InB (a b p : Int) (s : Nat) : Prop := s < 18446744073709551616 ∧ (-9223372036854775808 ≤ a ∧ a ≤ 9223372036854775807) ∧ (-9223372036854775808 ≤ b ∧ b ≤ 9223372036854775807) ∧ (-9223372036854775808 ≤ p ∧ p ≤ 9223372036854775807)
def txt5 (a b p : Int) (s : Nat) (t : Bool) : ByteArray := if chk3 a b p = 0 then ⟨(textC ⟨a, b, p, s, t⟩).toArray⟩ else ⟨#[]⟩
set_option maxHeartbeats 2000000 in
theorem gText_any (a b p : Int) (s : Nat) (t : Bool) (w : World) (hb : InB a b p s) (he : EnvG w) :
    Calls Tryd.prog 20 #[.agg #[.int .i64 a, .int .i64 b, .int .i64 p, .int .u64 s, .bool t]] w fun e w' => e = .returned (.tuple #[.string (txt5 a b p s t), .int .i64 (chk3 a b p)]) ∧ Ext w w' := by
  have c1 : Box _ := ⟨fun w => gcheck_any a b p s t w⟩
  have c2 : Box (∀ w1, Ext w w1 → _) := ⟨fun w1 h => gtext_any a b p s t w1 hb.1 hb.2.1 hb.2.2.1 hb.2.2.2 (he.ext h)⟩
  have hx : Ext w ((w.alloc (.cells #[.int .i64 a, .int .i64 b, .int .i64 p, .int .u64 s, .bool t] 24)).alloc (.cells #[.int .i64 a, .int .i64 b, .int .i64 p, .int .u64 s, .bool t] 24)) := Ext.alloc (Ext.alloc (Below.refl _ _) _) _
  unfold txt5
  clear hb he
  by_cases h : chk3 a b p = 0
  · rw [if_pos h]
    rw [h] at c1 ⊢
    clear h
    generalize (⟨(textC ⟨a, b, p, s, t⟩).toArray⟩ : ByteArray) = tx at *
    go_enter Tryd.func20, Tryd.ntmps20
    go_wp2_with (first
      | (go_at_call 9; (with_reducible refine (c1.out _).mono ?_); rintro e w' ⟨rfl, rfl⟩)
      | (go_at_call 29; (with_reducible refine (c2.out _ hx).mono ?_); rintro e w1 ⟨rfl, hb⟩; have hx := Ext.trans' hx hb))
    go_ret2
    exact ⟨rfl, hx⟩
  · rw [if_neg h]
    have h1 : (chk3 a b p == 0) = false := by rw [beq_eq_false_iff_ne]; exact h
    have h2 : (chk3 a b p != 0) = true := by rw [bne_iff_ne]; exact h
    generalize chk3 a b p = k at *
    clear h
    go_enter Tryd.func20, Tryd.ntmps20
    go_wp2_with (first | (go_at_call 9; (with_reducible refine (c1.out _).mono ?_); rintro e w' ⟨rfl, rfl⟩))
    go_ret2
    exact ⟨rfl, hx⟩

set_option maxHeartbeats 2000000 in
theorem parts_yes (a b p : Int) (s : Nat) (t : Bool) (x k : Int) (w : World) (hx1 : x = part3 a b p) (hk : k = chk3 a b p) :
    Calls Tryd.prog 11 #[.agg #[.int .i64 a, .int .i64 b, .int .i64 p, .int .u64 s, .bool t], .int .i64 x, .int .i64 k] w fun e w' => e = .returned (.bool true) ∧ Ext w w' := by
  have c1 : Box _ := ⟨fun w => gpart_any a b p s t w⟩
  rw [← hx1, ← hk] at c1
  have hx : Ext w (w.alloc (.cells #[.int .i64 a, .int .i64 b, .int .i64 p, .int .u64 s, .bool t] 24)) := Ext.alloc (Below.refl _ _) _
  clear hx1 hk
  go_enter Tryd.func11, Tryd.ntmps11
  go_wp2_with (first | (go_at_call 21; (with_reducible refine (c1.out _).mono ?_); rintro e w1 ⟨rfl, hb⟩; have hx := Ext.trans' hx hb))
  go_ret
  exact ⟨rfl, hx⟩
set_option maxHeartbeats 2000000 in
theorem writes_yes (a b p : Int) (s : Nat) (t : Bool) (x : ByteArray) (k : Int) (w : World) (hb : InB a b p s) (he : EnvG w) (hx1 : x = txt5 a b p s t) (hk : k = chk3 a b p) :
    Calls Tryd.prog 12 #[.agg #[.int .i64 a, .int .i64 b, .int .i64 p, .int .u64 s, .bool t], .string x, .int .i64 k] w fun e w' => e = .returned (.bool true) ∧ Ext w w' := by
  have c1 : Box (∀ w1, Ext w w1 → _) := ⟨fun w1 h => gText_any a b p s t w1 hb (he.ext h)⟩
  rw [← hx1, ← hk] at c1
  have hx : Ext w (w.alloc (.cells #[.int .i64 a, .int .i64 b, .int .i64 p, .int .u64 s, .bool t] 24)) := Ext.alloc (Below.refl _ _) _
  clear hx1 hk hb he
  go_enter Tryd.func12, Tryd.ntmps12
  go_wp2_with (first | (go_at_call 20; (with_reducible refine (c1.out _ hx).mono ?_); rintro e w1 ⟨rfl, hb⟩; have hx := Ext.trans' hx hb))
  go_ret
  exact ⟨rfl, hx⟩
set_option maxRecDepth 1000000 in
set_option maxHeartbeats 2000000 in
theorem parses_yes (s : ByteArray) (v : Value) (k : Int) (w : World) (hs : s.size ≤ 1000000) (he : EnvG w) (hv : v = pcV (parseC s.data.toList)) (hk : k = pcE (parseC s.data.toList)) :
    Calls Tryd.prog 17 #[.string s, v, .int .i64 k] w fun e w' => e = .returned (.bool true) ∧ Ext w w' := by
  have c1 : Box (∀ w1, Ext w w1 → _) := ⟨fun w1 h => gparse_any s w1 hs (he.ext h)⟩
  subst hv hk
  generalize parseC s.data.toList = o at *
  clear he
  cases o with
  | none =>
    unfold pcV pcE at *
    have hx : Ext w (w.alloc (.cells #[.int .i64 0, .int .i64 0, .int .i64 0, .int .u64 0, .bool false] 24)) := Ext.alloc (Below.refl _ _) _
    have hC := newblk w (.cells #[.int .i64 0, .int .i64 0, .int .i64 0, .int .u64 0, .bool false] 24)
    simp only at c1 ⊢
    have hg := cfg_struct.2.2
    have he := eqC 0 0 0 0 false
    go_enter Tryd.func17, Tryd.ntmps17
    go_wp2_with (first | (go_at_call 28; (with_reducible refine (c1.out _ hx).mono ?_); rintro e w1 ⟨rfl, hb⟩; have hx := Ext.trans' hx hb; have hC := Ext.blk hb hC; obtain ⟨m0, m1, m2, m3, m4⟩ := blk5 hC; have hne := blk_lt hC))
    go_ret
    exact ⟨rfl, Ext.alloc hx _⟩
  | some c =>
    obtain ⟨a, b, p, n, t⟩ := c
    unfold pcV pcE at *
    have hx : Ext w (w.alloc (.cells #[.int .i64 a, .int .i64 b, .int .i64 p, .int .u64 n, .bool t] 24)) := Ext.alloc (Below.refl _ _) _
    have hC := newblk w (.cells #[.int .i64 a, .int .i64 b, .int .i64 p, .int .u64 n, .bool t] 24)
    simp only at c1 ⊢
    have hg := cfg_struct.2.2
    have he := eqC a b p n t
    go_enter Tryd.func17, Tryd.ntmps17
    go_wp2_with (first | (go_at_call 28; (with_reducible refine (c1.out _ hx).mono ?_); rintro e w1 ⟨rfl, hb⟩; have hx := Ext.trans' hx hb; have hC := Ext.blk hb hC; obtain ⟨m0, m1, m2, m3, m4⟩ := blk5 hC; have hne := blk_lt hC))
    go_ret
    exact ⟨rfl, Ext.alloc hx _⟩
set_option maxRecDepth 1000000 in
set_option maxHeartbeats 2000000 in
theorem resizes_yes (a b p : Int) (s : Nat) (t : Bool) (m n : Int) (v : Value) (k : Int) (w : World) (hv : v = rz3 a b p s t m n) (hk : k = rze a b p m n) :
    Calls Tryd.prog 19 #[.agg #[.int .i64 a, .int .i64 b, .int .i64 p, .int .u64 s, .bool t], .int .i64 m, .int .i64 n, v, .int .i64 k] w fun e w' => e = .returned (.bool true) ∧ Ext w w' := by
  have c1 : Box _ := ⟨fun w1 => gresize_any a b p s t m n w1⟩
  rw [← hv, ← hk] at c1
  obtain ⟨x0, x1, x2, x3, x4, rfl⟩ : ∃ (x0 x1 x2 : Int) (x3 : Nat) (x4 : Bool), v = .agg #[.int .i64 x0, .int .i64 x1, .int .i64 x2, .int .u64 x3, .bool x4] := by
    rw [hv]; unfold rz3; split
    · exact ⟨_, _, _, _, _, rfl⟩
    · exact ⟨0, 0, 0, 0, false, rfl⟩
  clear hv hk
  have hx : Ext w ((w.alloc (.cells #[.int .i64 a, .int .i64 b, .int .i64 p, .int .u64 s, .bool t] 24)).alloc (.cells #[.int .i64 x0, .int .i64 x1, .int .i64 x2, .int .u64 x3, .bool x4] 24)) := Ext.alloc (Ext.alloc (Below.refl _ _) _) _
  have hC := newblk (w.alloc (.cells #[.int .i64 a, .int .i64 b, .int .i64 p, .int .u64 s, .bool t] 24)) (.cells #[.int .i64 x0, .int .i64 x1, .int .i64 x2, .int .u64 x3, .bool x4] 24)
  rw [show (w.alloc (.cells #[.int .i64 a, .int .i64 b, .int .i64 p, .int .u64 s, .bool t] 24)).heap.size = w.heap.size + 1 by simp] at hC
  have hg := cfg_struct.2.2
  have he := eqC x0 x1 x2 x3 x4
  go_enter Tryd.func19, Tryd.ntmps19
  go_wp2_with (first | (go_at_call 22; (with_reducible refine (c1.out _).mono ?_); rintro e w1 ⟨rfl, hb⟩; have hx := Ext.trans' hx hb; have hC := Ext.blk hb hC; obtain ⟨m0, m1, m2, m3, m4⟩ := blk5 hC; have hne := blk_lt hC))
  go_ret
  exact ⟨rfl, Ext.alloc hx _⟩
theorem gdefault_any (w : World) : Calls Tryd.prog 24 #[] w fun e w' => e = .returned (.agg #[.int .i64 1024, .int .i64 1048576, .int .i64 80, .int .u64 0, .bool false]) ∧ w.alloc (.cells #[.int .i64 1024, .int .i64 1048576, .int .i64 80, .int .u64 0, .bool false] 24) = w' := by
  go_enter Tryd.func24, Tryd.ntmps24
  go_wp2
  exact bodyPost_ret (v := .agg #[.int .i64 1024, .int .i64 1048576, .int .i64 80, .int .u64 0, .bool false]) (by simp [results, Tryd.results24, go_sem]) rfl ⟨rfl, rfl⟩
theorem rdefault_any (w : World) : Calls Tryd.prog 25 #[] w fun e w' => e = .returned (.agg #[.int .i64 1024, .int .i64 1048576, .int .i64 80, .int .u64 0, .bool false]) ∧ w.alloc (.cells #[.int .i64 1024, .int .i64 1048576, .int .i64 80, .int .u64 0, .bool false] 24) = w' := by
  go_enter Tryd.func25, Tryd.ntmps25
  go_wp2
  exact bodyPost_ret (v := .agg #[.int .i64 1024, .int .i64 1048576, .int .i64 80, .int .u64 0, .bool false]) (by simp [results, Tryd.results25, go_sem]) rfl ⟨rfl, rfl⟩
end Go.Proofs.YtpojemlnhbdfmaaDoor
