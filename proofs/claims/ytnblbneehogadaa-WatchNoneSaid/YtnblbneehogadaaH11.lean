import Derived.Test.YtnblbneehogadaaH10
import Derived.Lib.ConvBytes
import Derived.Lib.SmallJoins
/- The law's helpers: of, expired, adds, lost. -/
namespace Go.Proofs.Ytnblbneehogadaa
open Go.RowKit Go.ChangeMaps
theorem bytesWorld_by (w : World) (s : ByteArray) (c : Nat) (hs : s.size ≤ 100000) : By (Lib.bytesWorld w 5 s) (.slice (some ⟨w.heap.size, 0, none⟩) s.size c) s.data.toList := by
  have hl : s.data.toList.length = s.size := by simp
  refine ⟨_, _, by rw [hl], by omega, trivial, trivial, fun h0 => ⟨_, 0, rfl, fun i hi => ?_⟩⟩
  rw [hl] at hi
  rw [Nat.zero_add, Lib.bytesWorld_cell w _ s i hi, nums_getD _ _ (by omega), List.getD_eq_getElem?_getD, List.getElem?_eq_getElem (by omega)]
  rfl
theorem conv_str (w : World) (s : ByteArray) : (convert 9 26 (.string s)).run Try.prog w = .ok (.slice (some ⟨w.heap.size, 0, none⟩) s.size (grownCap w s.size 0 5)) (Lib.bytesWorld w 5 s) :=
  Lib.run_convert_string_bytes w _ _ _ s Try.underlying9 Try.underlying26 Try.underlying5
theorem Ext.bytes {w0 w : World} (h : Ext w0 w) (s : ByteArray) : Ext w0 (Lib.bytesWorld w 5 s) := Ext.trans' h (Joins.below_bytesWorld _ _ _ _ (Nat.le_refl _))
def zEv : Array Value := #[.int .i64 0, .string ⟨#[]⟩, .slice none 0 0, .int .u64 0, .int .u64 0, .int .u64 0]
set_option maxHeartbeats 1000000 in
theorem lof_any (s : ByteArray) (k : Int) (w : World) (hs : s.size ≤ 100000) (hs0 : 0 < s.size) : Calls Try.prog 12 #[.string s, .int .i64 k] w fun e w' => ∃ b c, e = .returned (.agg #[.int .i64 k, .string s, .slice (some ⟨b, 0, none⟩) s.size c, .int .u64 1, .int .u64 18446744073709551615, .int .u64 0]) ∧ w.heap.size ≤ b ∧ b < w'.heap.size ∧ By w' (.slice (some ⟨b, 0, none⟩) s.size c) s.data.toList ∧ Ext w w' := by
  have hR := newblk w (.cells zEv 30)
  obtain ⟨c0, W2, hcv, hby, hx2, hW2⟩ : ∃ c0 W2, (convert 9 26 (.string s)).run Try.prog (w.alloc (.cells #[.int .i64 0, .string ⟨#[]⟩, .slice none 0 0, .int .u64 0, .int .u64 0, .int .u64 0] 30)) = .ok (.slice (some ⟨w.heap.size + 1, 0, none⟩) s.size c0) W2 ∧ By W2 (.slice (some ⟨w.heap.size + 1, 0, none⟩) s.size c0) s.data.toList ∧ Ext (w.alloc (.cells zEv 30)) W2 ∧ w.heap.size + 1 < W2.heap.size := by
    have h1 := conv_str (w.alloc (.cells zEv 30)) s
    rw [show (w.alloc (.cells zEv 30)).heap.size = w.heap.size + 1 by simp] at h1
    have h3 := lt_of_cell (Lib.bytesWorld_cell (w.alloc (.cells zEv 30)) 5 s 0 hs0)
    rw [show (w.alloc (.cells zEv 30)).heap.size = w.heap.size + 1 by simp] at h3
    refine ⟨_, _, h1, ?_, Ext.bytes (Below.refl _ _) s, h3⟩
    have h2 := bytesWorld_by (w.alloc (.cells zEv 30)) s (grownCap (w.alloc (.cells zEv 30)) s.size 0 5) hs
    rw [show (w.alloc (.cells zEv 30)).heap.size = w.heap.size + 1 by simp] at h2
    exact h2
  have hR2 := Ext.blk hx2 hR
  unfold zEv at hR2
  obtain ⟨m0, m1, m2, m3, m4, m5⟩ := blk6 hR2
  obtain ⟨f0, f1, f2, f3, f4, f5⟩ := blk6f hR2
  have hx3 : Ext w W2 := Ext.trans' (Ext.alloc (Below.refl _ _) _) hx2
  have hbl : Box (∀ (a b c d e f : Value), By (St6 W2 w.heap.size a b c d e f) (.slice (some ⟨w.heap.size + 1, 0, none⟩) s.size c0) s.data.toList) := ⟨fun a b c d e f => by
    obtain ⟨p, q, h1, h2, h3, h4, h5⟩ := hby
    refine ⟨p, q, h1, h2, h3, h4, fun hn => ?_⟩
    obtain ⟨x, o, ha, hc⟩ := h5 hn
    have hl : s.data.toList.length = s.size := by simp
    simp only [Value.slice.injEq] at h1
    obtain ⟨h1, -, -⟩ := h1
    rw [← h1] at ha
    simp only [Option.some.injEq, Addr.mk.injEq] at ha
    obtain ⟨rfl, rfl, -⟩ := ha
    refine ⟨w.heap.size + 1, 0, h1.symm, fun i hi => ?_⟩
    have := hc i hi
    unfold St6
    rw [World.cell?_setCell_far _ _ _ _ (by simp), World.cell?_setCell_far _ _ _ _ (by simp), World.cell?_setCell_far _ _ _ _ (by simp), World.cell?_setCell_far _ _ _ _ (by simp), World.cell?_setCell_far _ _ _ _ (by simp), World.cell?_setCell_far _ _ _ _ (by simp)]
    exact this⟩
  clear hR hx2 hby hR2
  go_enter Try.func12, Try.ntmps12
  go_wp2
  refine bodyPost_ret (v := .agg #[.int .i64 k, .string s, .slice (some ⟨w.heap.size + 1, 0, none⟩) s.size c0, .int .u64 1, .int .u64 18446744073709551615, .int .u64 0]) ?_ rfl ⟨_, _, rfl, Nat.le_succ _, by simpa using hW2, hbl.out _ _ _ _ _ _, Ext.st6 hx3 (Nat.le_refl _) _ _ _ _ _ _⟩
  simp [results, Try.results12, go_sem, m0, m1, m2, m3, m4, m5]
set_option maxHeartbeats 1000000 in
theorem lexp_any (s : ByteArray) (w : World) (hs : s.size ≤ 100000) (hs0 : 0 < s.size) : Calls Try.prog 29 #[.string s] w fun e w' => ∃ b c, e = .returned (.agg #[.int .i64 1, .string s, .slice (some ⟨b, 0, none⟩) s.size c, .int .u64 2, .int .u64 5, .int .u64 5]) ∧ w.heap.size ≤ b ∧ b < w'.heap.size ∧ By w' (.slice (some ⟨b, 0, none⟩) s.size c) s.data.toList ∧ Ext w w' := by
  have hR := newblk w (.cells zEv 30)
  obtain ⟨c0, W2, hcv, hby, hx2, hW2⟩ : ∃ c0 W2, (convert 9 26 (.string s)).run Try.prog (w.alloc (.cells #[.int .i64 0, .string ⟨#[]⟩, .slice none 0 0, .int .u64 0, .int .u64 0, .int .u64 0] 30)) = .ok (.slice (some ⟨w.heap.size + 1, 0, none⟩) s.size c0) W2 ∧ By W2 (.slice (some ⟨w.heap.size + 1, 0, none⟩) s.size c0) s.data.toList ∧ Ext (w.alloc (.cells zEv 30)) W2 ∧ w.heap.size + 1 < W2.heap.size := by
    have h1 := conv_str (w.alloc (.cells zEv 30)) s
    rw [show (w.alloc (.cells zEv 30)).heap.size = w.heap.size + 1 by simp] at h1
    have h3 := lt_of_cell (Lib.bytesWorld_cell (w.alloc (.cells zEv 30)) 5 s 0 hs0)
    rw [show (w.alloc (.cells zEv 30)).heap.size = w.heap.size + 1 by simp] at h3
    refine ⟨_, _, h1, ?_, Ext.bytes (Below.refl _ _) s, h3⟩
    have h2 := bytesWorld_by (w.alloc (.cells zEv 30)) s (grownCap (w.alloc (.cells zEv 30)) s.size 0 5) hs
    rw [show (w.alloc (.cells zEv 30)).heap.size = w.heap.size + 1 by simp] at h2
    exact h2
  have hR2 := Ext.blk hx2 hR
  unfold zEv at hR2
  obtain ⟨m0, m1, m2, m3, m4, m5⟩ := blk6 hR2
  obtain ⟨f0, f1, f2, f3, f4, f5⟩ := blk6f hR2
  have hx3 : Ext w W2 := Ext.trans' (Ext.alloc (Below.refl _ _) _) hx2
  have hbl : Box (∀ (a b c d e f : Value), By (St6 W2 w.heap.size a b c d e f) (.slice (some ⟨w.heap.size + 1, 0, none⟩) s.size c0) s.data.toList) := ⟨fun a b c d e f => by
    obtain ⟨p, q, h1, h2, h3, h4, h5⟩ := hby
    refine ⟨p, q, h1, h2, h3, h4, fun hn => ?_⟩
    obtain ⟨x, o, ha, hc⟩ := h5 hn
    simp only [Value.slice.injEq] at h1
    obtain ⟨h1, -, -⟩ := h1
    rw [← h1] at ha
    simp only [Option.some.injEq, Addr.mk.injEq] at ha
    obtain ⟨rfl, rfl, -⟩ := ha
    refine ⟨w.heap.size + 1, 0, h1.symm, fun i hi => ?_⟩
    have := hc i hi
    unfold St6
    rw [World.cell?_setCell_far _ _ _ _ (by simp), World.cell?_setCell_far _ _ _ _ (by simp), World.cell?_setCell_far _ _ _ _ (by simp), World.cell?_setCell_far _ _ _ _ (by simp), World.cell?_setCell_far _ _ _ _ (by simp), World.cell?_setCell_far _ _ _ _ (by simp)]
    exact this⟩
  clear hR hx2 hby hR2
  go_enter Try.func29, Try.ntmps29
  go_wp2
  refine bodyPost_ret (v := .agg #[.int .i64 1, .string s, .slice (some ⟨w.heap.size + 1, 0, none⟩) s.size c0, .int .u64 2, .int .u64 5, .int .u64 5]) ?_ rfl ⟨_, _, rfl, Nat.le_succ _, by simpa using hW2, hbl.out _ _ _ _ _ _, Ext.st6 hx3 (Nat.le_refl _) _ _ _ _ _ _⟩
  simp [results, Try.results29, go_sem, m0, m1, m2, m3, m4, m5]
set_option maxHeartbeats 1000000 in
theorem adds_of (hp : Option Addr) (pre : ByteArray) (ka : Option Addr) (n kc : Nat) (room : Int) (old : Bool) (r e0 id no : Int) (w : World) {R : World → Prop}
    (hA : Calls Try.prog 17 #[.pointer hp, .agg #[.string pre, .slice ka n kc, .int .i64 room, .bool old]] (w.alloc (.cells #[.string pre, .slice ka n kc, .int .i64 room, .bool old] 24)) fun e w' => e = .returned (.tuple #[.int .i64 r, .int .i64 e0]) ∧ R w') :
    Calls Try.prog 11 #[.pointer hp, .agg #[.string pre, .slice ka n kc, .int .i64 room, .bool old], .int .i64 id, .int .i64 no] w fun e w' => e = .returned (.bool (r == id && e0 == no)) ∧ R w' := by
  have c1 := Box.mk hA
  clear hA
  cases hb : (r == id) with
  | false =>
    go_enter Try.func11, Try.ntmps11
    go_wp2_with (first | (go_at_call 17; (with_reducible refine (c1.out).mono ?_); rintro e w1 ⟨rfl, hR⟩))
    go_ret
    exact ⟨ret_bool (by simp [hb]), hR⟩
  | true =>
    go_enter Try.func11, Try.ntmps11
    go_wp2_with (first | (go_at_call 17; (with_reducible refine (c1.out).mono ?_); rintro e w1 ⟨rfl, hR⟩))
    go_ret
    exact ⟨ret_bool (by simp [hb]), hR⟩
set_option maxHeartbeats 1000000 in
theorem llost_of (hp : Option Addr) (id r e0 m : Int) (w : World) {R : World → Prop}
    (hA : Calls Try.prog 21 #[.pointer hp, .int .i64 id] w fun e w' => e = .returned (.tuple #[.int .i64 r, .int .i64 e0]) ∧ R w') :
    Calls Try.prog 14 #[.pointer hp, .int .i64 id, .int .i64 m] w fun e w' => e = .returned (.bool (r == m && e0 == 0)) ∧ R w' := by
  have c1 := Box.mk hA
  clear hA
  cases hb : (r == m) with
  | false =>
    go_enter Try.func14, Try.ntmps14
    go_wp2_with (first | (go_at_call 21; (with_reducible refine (c1.out).mono ?_); rintro e w1 ⟨rfl, hR⟩))
    go_ret
    exact ⟨ret_bool (by simp [hb]), hR⟩
  | true =>
    go_enter Try.func14, Try.ntmps14
    go_wp2_with (first | (go_at_call 21; (with_reducible refine (c1.out).mono ?_); rintro e w1 ⟨rfl, hR⟩))
    go_ret
    exact ⟨ret_bool (by simp [hb]), hR⟩
end Go.Proofs.Ytnblbneehogadaa
