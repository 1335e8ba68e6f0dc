import Derived.Test.YthlnhemdhlkhfaaDoorD16
/- What the chapter's examples ask. -/
namespace Go.Proofs.YthlnhemdhlkhfaaDoor
open Go.RowKit

set_option maxRecDepth 100000 in
set_option maxHeartbeats 2000000 in
theorem makes_any {k a r p s : Nat} (V : Vld k a r p s) (u : Value) (w : World) (hu : Sl w u r (u32s (keyL k a r p s) r)) :
    Calls Tryd.prog 25 #[(.agg #[.int .i64 (k), .int .i64 (a), .int .i64 (r), .int .i64 (p), .int .u64 (s)]), u] w fun e w' => e = .returned (.bool true) ∧ Ext w w' := by
  have hx : Ext w (w.alloc (.cells #[.int .i64 (k), .int .i64 (a), .int .i64 (r), .int .i64 (p), .int .u64 (s)] 28)) := Ext.alloc (Below.refl _ _) _
  have cm : Box _ := ⟨fun w => make_any V w⟩
  have cs : Box (∀ v w1, Ext w w1 → Sl w1 v r (u32s (keyL k a r p s) r) → Calls Tryd.prog 14 #[v, u] w1 fun e w' => e = .returned (.bool true) ∧ Ext w1 w') := ⟨fun v w1 hb hv => same_any v u r _ w1 hv (hu.ext hb)⟩
  clear V hu
  go_enter Tryd.func25, Tryd.ntmps25
  go_wp2_with (first
    | (go_at_call 13; (with_reducible refine (cm.out _).mono ?_); rintro e w1 ⟨v, rfl, hv, hb⟩; have hx := Ext.trans' hx hb)
    | (go_at_call 14; (with_reducible refine (cs.out _ _ hx hv).mono ?_); rintro e w2 ⟨rfl, hb2⟩; have hx := Ext.trans' hx hb2))
  go_ret
  exact ⟨rfl, hx⟩
/-- The examples' lists. -/
theorem makes_lit {k a r p s : Nat} (V : Vld k a r p s) (cs : List Value) (hc : u32s (keyL k a r p s) r = cs) (w : World) (N : Nat) (hN : N = w.heap.size) :
    Calls Tryd.prog 25 #[(.agg #[.int .i64 (k), .int .i64 (a), .int .i64 (r), .int .i64 (p), .int .u64 (s)]), .slice (some ⟨N, 0, none⟩) r r] (w.alloc (.cells cs.toArray 56)) fun e w' => e = .returned (.bool true) ∧ Ext (w.alloc (.cells cs.toArray 56)) w' := by
  have hr := V.r2
  exact makes_any V _ _ (hc ▸ Sl.new w _ _ N r r hN (by omega) (Nat.le_refl _))
def lF : Nat → Nat := fun i => [0, 1, 2, 0, 1].getD i 0
theorem count_1 (w : World) (N : Nat) (hN : N = w.heap.size) :
    Calls Tryd.prog 16 #[.slice (some ⟨N, 0, none⟩) 5 5, .int .i64 4] (w.alloc (.cells #[.int .u32 0, .int .u32 1, .int .u32 2, .int .u32 0, .int .u32 1] 56)) fun e w' => ∃ v, e = .returned (.tuple #[v, .int .i64 0]) ∧ Sl w' v 4 (i64s (cnt lF 5) 4) ∧ Ext (w.alloc (.cells #[.int .u32 0, .int .u32 1, .int .u32 2, .int .u32 0, .int .u32 1] 56)) w' := by
  refine (counts_any _ lF 5 4 _ (Sl.new w (u32s lF 5) 56 N 5 5 hN (by decide) (by decide)) (by decide) (by decide) (by decide) (by decide)).mono ?_
  rintro e w' ⟨hb, ⟨v, h1, h2, _⟩ | ⟨_, i, hi, h⟩⟩
  · exact ⟨v, h1, h2, hb⟩
  · obtain rfl | rfl | rfl | rfl | rfl : i = 0 ∨ i = 1 ∨ i = 2 ∨ i = 3 ∨ i = 4 := by omega
    all_goals exact absurd h (by decide)
theorem count_2 (w : World) (N : Nat) (hN : N = w.heap.size) :
    Calls Tryd.prog 16 #[.slice (some ⟨N, 0, none⟩) 1 1, .int .i64 4] (w.alloc (.cells #[.int .u32 4] 56)) fun e w' => e = .returned (.tuple #[.slice none 0 0, .int .i64 3]) ∧ Ext (w.alloc (.cells #[.int .u32 4] 56)) w' := by
  refine (counts_any _ (fun _ => 4) 1 4 _ (Sl.new w (u32s (fun _ => 4) 1) 56 N 1 1 hN (by decide) (by decide)) (by decide) (by decide) (by decide) (fun _ _ => by decide)).mono ?_
  rintro e w' ⟨hb, ⟨v, h1, h2, h3⟩ | ⟨h1, _⟩⟩
  · exact absurd (h3 0 (by decide)) (by decide)
  · exact ⟨h1, hb⟩
theorem ints_1 (w : World) (N : Nat) (hN : N = w.heap.size) (v : Value) (hv : Sl w v 4 (i64s (cnt lF 5) 4)) :
    Calls Tryd.prog 18 #[v, .slice (some ⟨N, 0, none⟩) 4 4] (w.alloc (.cells #[.int .i64 2, .int .i64 2, .int .i64 1, .int .i64 0] 3)) fun e w' => e = .returned (.bool true) ∧ Ext (w.alloc (.cells #[.int .i64 2, .int .i64 2, .int .i64 1, .int .i64 0] 3)) w' :=
  ints_any _ _ 4 (cnt lF 5) _ (hv.ext (Ext.alloc (Below.refl _ _) _)) (Sl.new w (i64s (cnt lF 5) 4) 3 N 4 4 hN (by decide) (by decide))
theorem v4 : Vld 4 10 1 2 7 := ⟨by decide, by decide, by decide, by decide, by decide⟩
theorem v1 : Vld 1 3 5 0 0 := ⟨by decide, by decide, by decide, by decide, by decide⟩
theorem v2 : Vld 2 5 4 0 0 := ⟨by decide, by decide, by decide, by decide, by decide⟩
theorem v3 : Vld 3 10 3 0 0 := ⟨by decide, by decide, by decide, by decide, by decide⟩
theorem v4' : Vld 4 10 1 2 0 := ⟨by decide, by decide, by decide, by decide, by decide⟩
theorem v5 : Vld 5 10 3 3 0 := ⟨by decide, by decide, by decide, by decide, by decide⟩
theorem v6 : Vld 6 10 4 1 0 := ⟨by decide, by decide, by decide, by decide, by decide⟩
def s4 : ByteArray := ⟨#[115, 107, 101, 119, 32, 107, 101, 121, 115, 61, 49, 48, 32, 114, 101, 113, 117, 101, 115, 116, 115, 61, 49, 32, 112, 97, 114, 116, 61, 50, 32, 115, 101, 101, 100, 61, 55]⟩
def s1 : ByteArray := ⟨#[108, 111, 111, 112, 32, 107, 101, 121, 115, 61, 51, 32, 114, 101, 113, 117, 101, 115, 116, 115, 61, 53, 32, 112, 97, 114, 116, 61, 48, 32, 115, 101, 101, 100, 61, 48]⟩
def s0 : ByteArray := ⟨#[108, 111, 111, 112, 32, 107, 101, 121, 115, 61, 48, 51, 32, 114, 101, 113, 117, 101, 115, 116, 115, 61, 53, 32, 112, 97, 114, 116, 61, 48, 32, 115, 101, 101, 100, 61, 48]⟩
theorem t4 : textL 4 10 1 2 7 = s4.data.toList := by
  simp [textL, dd, Lib.decDigits, kW, rW, pW, sW, wordL, s4]
theorem t1 : textL 1 3 5 0 0 = s1.data.toList := by
  simp [textL, dd, Lib.decDigits, kW, rW, pW, sW, wordL, s1]
theorem t4B : textB 4 10 1 2 7 = s4 := by
  apply ByteArray.ext
  apply Array.ext'
  rw [text_list]; exact t4
theorem parse_1 (w : World) (hw : Env w) : Calls Tryd.prog 21 #[.string s1] w fun e w' => e = .returned (.tuple #[(.agg #[.int .i64 (1), .int .i64 (3), .int .i64 (5), .int .i64 (0), .int .u64 (0)]), .int .i64 0]) ∧ Ext w w' := by
  refine (parse_any s1 w (by decide) hw).mono ?_
  rintro e w' ⟨hb, ⟨k, a, r, p, x, V, ht, he⟩ | ⟨_, h⟩⟩
  · obtain ⟨rfl, rfl, rfl, rfl, rfl⟩ := text_inj V v1 (ht.trans t1.symm)
    exact ⟨he, hb⟩
  · exact absurd t1 (h _ _ _ _ _ v1)
theorem run_0 : runL 42 s0.data.toList 0 LS.zero = some ⟨1, 3, 5, 0, 0⟩ := by rfl
theorem parse_0 (w : World) (hw : Env w) : Calls Tryd.prog 21 #[.string s0] w fun e w' => e = .returned (.tuple #[(.agg #[.int .i64 (0), .int .i64 (0), .int .i64 (0), .int .i64 (0), .int .u64 (0)]), .int .i64 6]) ∧ Ext w w' := by
  refine (parse_any s0 w (by decide) hw).mono ?_
  rintro e w' ⟨hb, ⟨k, a, r, p, x, V, ht, he⟩ | ⟨h, _⟩⟩
  · have h1 := run_text V 37
    rw [ht, run_0] at h1
    injection h1 with h1
    have e1 := congrArg LS.k h1
    have e2 := congrArg LS.a h1
    have e3 := congrArg LS.r h1
    have e4 := congrArg LS.p h1
    have e5 := congrArg LS.s h1
    simp only at e1 e2 e3 e4 e5
    obtain rfl : k = 1 := by omega
    subst e2; subst e3; subst e4; subst e5
    rw [t1] at ht
    exact absurd ht (by decide)
  · exact ⟨h, hb⟩
end Go.Proofs.YthlnhemdhlkhfaaDoor
