import Derived.Test.YthlnhemdhlkhfaaDoorD17
import Derived.Laws.StructEq
/- The examples of the chapter. -/
namespace Go.Proofs.YthlnhemdhlkhfaaDoor
open Go.RowKit

theorem load_struct : Tryd.prog.underlying 28 = some (.struct (Tryd.prog.fieldsOf 28)) ∧ Tryd.prog.stoodInHeld 28 = false ∧ Tryd.prog.eqGuardType Tryd.prog.depth 28 = false := ⟨by kernel_rfl, by kernel_rfl, by kernel_rfl⟩
theorem eqL (k a r p : Int) (s : Nat) (w : World) : (Op.equalIn 10000 28 ((.agg #[.int .i64 (k), .int .i64 (a), .int .i64 (r), .int .i64 (p), .int .u64 (s)])) ((.agg #[.int .i64 (k), .int .i64 (a), .int .i64 (r), .int .i64 (p), .int .u64 (s)]))).run Tryd.prog w = .ok true w := by
  rw [show (10000 : Nat) = 9999 + 1 from rfl, run_equalIn_agg w 9999 28 _ _ load_struct.1 load_struct.2.1]
  simp only [Program.fieldsOf, Tryd.underlying28]
  go_simp
theorem ext_in {W w' : World} {o : Obj} (h : Ext (W.alloc o) w') : Ext W w' := Ext.trans' (Ext.alloc (Below.refl _ _) o) h
theorem u32s_of {f : Nat → Nat} {n : Nat} (xs : List Nat) (h : (List.range n).map f = xs) : u32s f n = xs.map (fun x : Nat => Value.int .u32 (x : Int)) := by
  rw [← h, List.map_map]; rfl
theorem numbers : numI 0 0 = 48271 ∧ numI 0 1 = 182605794 ∧ numI 0 2 = 1291394886 ∧ numI 2147483646 0 = 48271 ∧ numI 1 0 = 96542 ∧ numI 0 (-1) = 0 := by
  refine ⟨?_, ?_, ?_, ?_, ?_, ?_⟩ <;> decide
set_option maxRecDepth 100000 in
set_option maxHeartbeats 4000000 in
theorem known_any (w : World) (hw : Env w) : Calls Tryd.prog 10 #[] w fun e w' => e = .returned (.bool true) ∧ Ext w w' := by
  have n0 : Box (∀ w, Calls Tryd.prog 8 #[.int .u64 0, .int .i64 0] w fun e w' => e = .returned (.int .u64 48271) ∧ w = w') := ⟨fun w => by have := number_any 0 0 w (by decide); rw [numbers.1] at this; exact this⟩
  have n1 : Box (∀ w, Calls Tryd.prog 8 #[.int .u64 0, .int .i64 1] w fun e w' => e = .returned (.int .u64 182605794) ∧ w = w') := ⟨fun w => by have := number_any 0 1 w (by decide); rw [numbers.2.1] at this; exact this⟩
  have n2 : Box (∀ w, Calls Tryd.prog 8 #[.int .u64 0, .int .i64 2] w fun e w' => e = .returned (.int .u64 1291394886) ∧ w = w') := ⟨fun w => by have := number_any 0 2 w (by decide); rw [numbers.2.2.1] at this; exact this⟩
  have n3 : Box (∀ w, Calls Tryd.prog 8 #[.int .u64 2147483646, .int .i64 0] w fun e w' => e = .returned (.int .u64 48271) ∧ w = w') := ⟨fun w => by have := number_any 2147483646 0 w (by decide); rw [numbers.2.2.2.1] at this; exact this⟩
  have n4 : Box (∀ w, Calls Tryd.prog 8 #[.int .u64 1, .int .i64 0] w fun e w' => e = .returned (.int .u64 96542) ∧ w = w') := ⟨fun w => by have := number_any 1 0 w (by decide); rw [numbers.2.2.2.2.1] at this; exact this⟩
  have n5 : Box (∀ w, Calls Tryd.prog 8 #[.int .u64 0, .int .i64 (-1)] w fun e w' => e = .returned (.int .u64 0) ∧ w = w') := ⟨fun w => by have := number_any 0 (-1) w (by decide); rw [numbers.2.2.2.2.2] at this; exact this⟩
  have HW : Box (∀ w', Ext w w' → Env w') := ⟨fun w' hb => hw.ext hb⟩
  have m1 : Box (∀ W N, N = (World.heap W).size → Calls Tryd.prog 25 #[(.agg #[.int .i64 (1), .int .i64 (3), .int .i64 (5), .int .i64 (0), .int .u64 (0)]), .slice (some ⟨N, 0, none⟩) 5 5] (W.alloc (.cells #[.int .u32 0, .int .u32 1, .int .u32 2, .int .u32 0, .int .u32 1] 56)) fun e w' => e = .returned (.bool true) ∧ Ext W w') := ⟨fun W N hN => (makes_lit v1 [.int .u32 0, .int .u32 1, .int .u32 2, .int .u32 0, .int .u32 1] ((u32s_of [0, 1, 2, 0, 1] (by decide)).trans rfl) W N hN).mono fun e w' h => ⟨h.1, ext_in h.2⟩⟩
  have m2 : Box (∀ W N, N = (World.heap W).size → Calls Tryd.prog 25 #[(.agg #[.int .i64 (2), .int .i64 (5), .int .i64 (4), .int .i64 (0), .int .u64 (0)]), .slice (some ⟨N, 0, none⟩) 4 4] (W.alloc (.cells #[.int .u32 0, .int .u32 1, .int .u32 2, .int .u32 3] 56)) fun e w' => e = .returned (.bool true) ∧ Ext W w') := ⟨fun W N hN => (makes_lit v2 [.int .u32 0, .int .u32 1, .int .u32 2, .int .u32 3] ((u32s_of [0, 1, 2, 3] (by decide)).trans rfl) W N hN).mono fun e w' h => ⟨h.1, ext_in h.2⟩⟩
  have m3 : Box (∀ W N, N = (World.heap W).size → Calls Tryd.prog 25 #[(.agg #[.int .i64 (3), .int .i64 (10), .int .i64 (3), .int .i64 (0), .int .u64 (0)]), .slice (some ⟨N, 0, none⟩) 3 3] (W.alloc (.cells #[.int .u32 1, .int .u32 4, .int .u32 6] 56)) fun e w' => e = .returned (.bool true) ∧ Ext W w') := ⟨fun W N hN => (makes_lit v3 [.int .u32 1, .int .u32 4, .int .u32 6] ((u32s_of [1, 4, 6] (by decide)).trans rfl) W N hN).mono fun e w' h => ⟨h.1, ext_in h.2⟩⟩
  have m4 : Box (∀ W N, N = (World.heap W).size → Calls Tryd.prog 25 #[(.agg #[.int .i64 (4), .int .i64 (10), .int .i64 (1), .int .i64 (2), .int .u64 (0)]), .slice (some ⟨N, 0, none⟩) 1 1] (W.alloc (.cells #[.int .u32 1] 56)) fun e w' => e = .returned (.bool true) ∧ Ext W w') := ⟨fun W N hN => (makes_lit v4' [.int .u32 1] ((u32s_of [1] (by decide)).trans rfl) W N hN).mono fun e w' h => ⟨h.1, ext_in h.2⟩⟩
  have m5 : Box (∀ W N, N = (World.heap W).size → Calls Tryd.prog 25 #[(.agg #[.int .i64 (5), .int .i64 (10), .int .i64 (3), .int .i64 (3), .int .u64 (0)]), .slice (some ⟨N, 0, none⟩) 3 3] (W.alloc (.cells #[.int .u32 1, .int .u32 3, .int .u32 6] 56)) fun e w' => e = .returned (.bool true) ∧ Ext W w') := ⟨fun W N hN => (makes_lit v5 [.int .u32 1, .int .u32 3, .int .u32 6] ((u32s_of [1, 3, 6] (by decide)).trans rfl) W N hN).mono fun e w' h => ⟨h.1, ext_in h.2⟩⟩
  have m6 : Box (∀ W N, N = (World.heap W).size → Calls Tryd.prog 25 #[(.agg #[.int .i64 (6), .int .i64 (10), .int .i64 (4), .int .i64 (1), .int .u64 (0)]), .slice (some ⟨N, 0, none⟩) 4 4] (W.alloc (.cells #[.int .u32 1, .int .u32 5, .int .u32 1, .int .u32 6] 56)) fun e w' => e = .returned (.bool true) ∧ Ext W w') := ⟨fun W N hN => (makes_lit v6 [.int .u32 1, .int .u32 5, .int .u32 1, .int .u32 6] ((u32s_of [1, 5, 1, 6] (by decide)).trans rfl) W N hN).mono fun e w' h => ⟨h.1, ext_in h.2⟩⟩
  have k1 : Box (∀ W N, N = (World.heap W).size → Calls Tryd.prog 16 #[.slice (some ⟨N, 0, none⟩) 5 5, .int .i64 4] (W.alloc (.cells #[.int .u32 0, .int .u32 1, .int .u32 2, .int .u32 0, .int .u32 1] 56)) fun e w' => ∃ v, e = .returned (.tuple #[v, .int .i64 0]) ∧ Sl w' v 4 (i64s (cnt lF 5) 4) ∧ Ext W w') := ⟨fun W N hN => (count_1 W N hN).mono fun e w' ⟨v, h1, h2, h3⟩ => ⟨v, h1, h2, ext_in h3⟩⟩
  have k2 : Box (∀ W N, N = (World.heap W).size → Calls Tryd.prog 16 #[.slice (some ⟨N, 0, none⟩) 1 1, .int .i64 4] (W.alloc (.cells #[.int .u32 4] 56)) fun e w' => e = .returned (.tuple #[.slice none 0 0, .int .i64 3]) ∧ Ext W w') := ⟨fun W N hN => (count_2 W N hN).mono fun e w' h => ⟨h.1, ext_in h.2⟩⟩
  have k3 : Box (∀ W N v, N = (World.heap W).size → Sl W v 4 (i64s (cnt lF 5) 4) → Calls Tryd.prog 18 #[v, .slice (some ⟨N, 0, none⟩) 4 4] (W.alloc (.cells #[.int .i64 2, .int .i64 2, .int .i64 1, .int .i64 0] 3)) fun e w' => e = .returned (.bool true) ∧ Ext W w') := ⟨fun W N v hN hv => (ints_1 W N hN v hv).mono fun e w' h => ⟨h.1, ext_in h.2⟩⟩
  have kt : Box (∀ w1, Ext w w1 → Calls Tryd.prog 19 #[(.agg #[.int .i64 (4), .int .i64 (10), .int .i64 (1), .int .i64 (2), .int .u64 (7)])] w1 fun e w' => e = .returned (.tuple #[.string s4, .int .i64 0]) ∧ Ext w1 w') := ⟨fun w1 hb => by have := gtext_any v4 w1 (HW.out _ hb).tabs; rw [t4B] at this; exact this⟩
  have kp : Box (∀ w1, Ext w w1 → Calls Tryd.prog 21 #[.string s1] w1 fun e w' => e = .returned (.tuple #[(.agg #[.int .i64 (1), .int .i64 (3), .int .i64 (5), .int .i64 (0), .int .u64 (0)]), .int .i64 0]) ∧ Ext w1 w') := ⟨fun w1 hb => parse_1 w1 (HW.out _ hb)⟩
  have kq : Box (∀ w1, Ext w w1 → Calls Tryd.prog 21 #[.string s0] w1 fun e w' => e = .returned (.tuple #[(.agg #[.int .i64 (0), .int .i64 (0), .int .i64 (0), .int .i64 (0), .int .u64 (0)]), .int .i64 6]) ∧ Ext w1 w') := ⟨fun w1 hb => parse_0 w1 (HW.out _ hb)⟩
  unfold s4 at kt
  unfold s1 at kp
  unfold s0 at kq
  have hx : Ext w (w.alloc (.cells #[.int .i64 (1), .int .i64 (3), .int .i64 (5), .int .i64 (0), .int .u64 (0)] 28)) := Ext.alloc (Below.refl _ _) _
  have hB := newblk w (.cells #[.int .i64 (1), .int .i64 (3), .int .i64 (5), .int .i64 (0), .int .u64 (0)] 28)
  have hg := load_struct.2.2
  have hq := eqL 1 3 5 0 0
  clear hw HW
  go_enter Tryd.func10, Tryd.ntmps10
  go_wp2_with (first
    | (go_at_call 8; (with_reducible refine (n0.out _).mono ?_); rintro e w' ⟨rfl, rfl⟩)
    | (go_at_call 8; (with_reducible refine (n1.out _).mono ?_); rintro e w' ⟨rfl, rfl⟩)
    | (go_at_call 8; (with_reducible refine (n2.out _).mono ?_); rintro e w' ⟨rfl, rfl⟩)
    | (go_at_call 8; (with_reducible refine (n3.out _).mono ?_); rintro e w' ⟨rfl, rfl⟩)
    | (go_at_call 8; (with_reducible refine (n4.out _).mono ?_); rintro e w' ⟨rfl, rfl⟩)
    | (go_at_call 8; (with_reducible refine (n5.out _).mono ?_); rintro e w' ⟨rfl, rfl⟩)
    | (go_at_call 25; (with_reducible refine (m1.out _ _ (by simp)).mono ?_); rintro e w1 ⟨rfl, hb⟩; have hx := Ext.trans' hx hb; have hB := Ext.blk hb hB)
    | (go_at_call 25; (with_reducible refine (m2.out _ _ (by simp)).mono ?_); rintro e w1 ⟨rfl, hb⟩; have hx := Ext.trans' hx hb; have hB := Ext.blk hb hB)
    | (go_at_call 25; (with_reducible refine (m3.out _ _ (by simp)).mono ?_); rintro e w1 ⟨rfl, hb⟩; have hx := Ext.trans' hx hb; have hB := Ext.blk hb hB)
    | (go_at_call 25; (with_reducible refine (m4.out _ _ (by simp)).mono ?_); rintro e w1 ⟨rfl, hb⟩; have hx := Ext.trans' hx hb; have hB := Ext.blk hb hB)
    | (go_at_call 25; (with_reducible refine (m5.out _ _ (by simp)).mono ?_); rintro e w1 ⟨rfl, hb⟩; have hx := Ext.trans' hx hb; have hB := Ext.blk hb hB)
    | (go_at_call 25; (with_reducible refine (m6.out _ _ (by simp)).mono ?_); rintro e w1 ⟨rfl, hb⟩; have hx := Ext.trans' hx hb; have hB := Ext.blk hb hB)
    | (go_at_call 16; (with_reducible refine (k1.out _ _ (by simp)).mono ?_); rintro e w1 ⟨v, rfl, hv, hb⟩; have hx := Ext.trans' hx hb; have hB := Ext.blk hb hB)
    | (go_at_call 16; (with_reducible refine (k2.out _ _ (by simp)).mono ?_); rintro e w1 ⟨rfl, hb⟩; have hx := Ext.trans' hx hb; have hB := Ext.blk hb hB; have hv := hv.ext hb)
    | (go_at_call 18; (with_reducible refine (k3.out _ _ _ (by simp) hv).mono ?_); rintro e w1 ⟨rfl, hb⟩; have hx := Ext.trans' hx hb; have hB := Ext.blk hb hB)
    | (go_at_call 19; (with_reducible refine (kt.out _ hx).mono ?_); rintro e w1 ⟨rfl, hb⟩; have hx := Ext.trans' hx hb; have hB := Ext.blk hb hB; have hv := hv.ext hb)
    | (go_at_call 21; (with_reducible refine (kp.out _ hx).mono ?_); rintro e w1 ⟨rfl, hb⟩; have hx := Ext.trans' hx hb; have hB := Ext.blk hb hB; have hx := Ext.alloc hx (.cells #[.int .i64 (1), .int .i64 (3), .int .i64 (5), .int .i64 (0), .int .u64 (0)] 28); have hB := Ext.blk (Ext.alloc (Below.refl _ _) (.cells #[.int .i64 (1), .int .i64 (3), .int .i64 (5), .int .i64 (0), .int .u64 (0)] 28)) hB; have hC := newblk w1 (.cells #[.int .i64 (1), .int .i64 (3), .int .i64 (5), .int .i64 (0), .int .u64 (0)] 28))
    | (go_at_call 21; (with_reducible refine (kq.out _ hx).mono ?_); rintro e w1 ⟨rfl, hb⟩; have hx := Ext.trans' hx hb; have hB := Ext.blk hb hB; have hC := Ext.blk hb hC; obtain ⟨a0, a1, a2, a3, a4⟩ := blk5 hB; obtain ⟨c0, c1, c2, c3, c4⟩ := blk5 hC))
  go_ret
  exact ⟨rfl, hx⟩
end Go.Proofs.YthlnhemdhlkhfaaDoor
