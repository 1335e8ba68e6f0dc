import Derived.Test.YtboecabipkkcgaaDoorE2
/- Contracts of Copy, Equal, New, Valid and their references. -/
namespace Go.Proofs.YtboecabipkkcgaaDoor
open Go.RowKit

def entV (k : ByteArray) (v : Value) (d b : Nat) : Value := .agg #[.string k, v, .int .u64 d, .int .u64 b]

theorem Ext.free {W w1 : World} (hb : Ext W w1) {b o : Nat} (hl : b < W.heap.size) (h : W.frozen? ⟨b, o, none⟩ = false) : w1.frozen? ⟨b, o, none⟩ = false := (Below.frozen hb (p := ⟨b, o, none⟩) hl).trans h

set_option maxHeartbeats 1000000 in
theorem copy_any (k : ByteArray) (v : Value) (d b : Nat) (l : List UInt8) (w : World) (h : By w v l) :
    Calls Tryd.prog 24 #[.agg #[.string k, v, .int .u64 d, .int .u64 b]] w fun e w' => ∃ v', e = .returned (.agg #[.string k, v', .int .u64 d, .int .u64 b]) ∧ OwnB w.heap.size w' v' l ∧ Ext w w' := by
  have c1 : Box (∀ w1, Ext w w1 → Calls Tryd.prog 48 #[v] w1 fun e w' => ∃ v', e = .returned v' ∧ OwnB w1.heap.size w' v' l ∧ Below w1.heap.size w1 w') := ⟨fun w1 hx => clone_any v l w1 (h.ext hx)⟩
  obtain ⟨a, c, rfl, _⟩ := h.size
  have hx0 : Ext w ((w.alloc (.cells #[.string k, .slice a l.length c, .int .u64 d, .int .u64 b] 33)).alloc (.cells #[.string ⟨#[]⟩, .slice none 0 0, .int .u64 0, .int .u64 0] 33)) := Ext.alloc (Ext.alloc (Below.refl _ _) _) _
  clear h
  go_enter Tryd.func24, Tryd.ntmps24
  go_wp2_with (first | (go_at_call 48; (with_reducible refine (c1.out _ hx0).mono ?_); rintro e w1 ⟨v', rfl, ho, hb⟩; obtain ⟨a1, c1', rfl⟩ := ho.shape; have k0 := Ext.cell hb (b := w.heap.size) (o := 0) (v := .string k) (by go_simp); have k1 := Ext.cell hb (b := w.heap.size) (o := 1) (v := .slice a l.length c) (by go_simp); have k2 := Ext.cell hb (b := w.heap.size) (o := 2) (v := .int .u64 d) (by go_simp); have k3 := Ext.cell hb (b := w.heap.size) (o := 3) (v := .int .u64 b) (by go_simp); have f1 := Ext.free hb (b := w.heap.size) (o := 1) (by simp; omega) (by go_simp); have m0 := Ext.cell hb (b := w.heap.size + 1) (o := 0) (v := .string ⟨#[]⟩) (by go_simp); have g0 := Ext.free hb (b := w.heap.size + 1) (o := 0) (by simp) (by go_simp); have g1 := Ext.free hb (b := w.heap.size + 1) (o := 1) (by simp) (by go_simp); have g2 := Ext.free hb (b := w.heap.size + 1) (o := 2) (by simp) (by go_simp); have g3 := Ext.free hb (b := w.heap.size + 1) (o := 3) (by simp) (by go_simp); have m1 := Ext.cell hb (b := w.heap.size + 1) (o := 1) (v := .slice none 0 0) (by go_simp); have m2 := Ext.cell hb (b := w.heap.size + 1) (o := 2) (v := .int .u64 0) (by go_simp); have m3 := Ext.cell hb (b := w.heap.size + 1) (o := 3) (v := .int .u64 0) (by go_simp); have hz : w.heap.size + 2 ≤ w1.heap.size := by have := hb.size; simp at this; omega))
  have ho' := ho.mono (C := w.heap.size + 2) (by simp)
  have hx1 := Ext.trans' hx0 hb
  refine bodyPost_ret (v := .agg #[.string k, .slice a1 l.length c1', .int .u64 d, .int .u64 b]) ?_ rfl ⟨_, rfl, ?_, ?_⟩
  · simp [results, Tryd.results24, go_sem, m0, m1, m2, m3]
  · exact (((((ho'.setCell (p := ⟨w.heap.size, 1, none⟩) (by simp) _).setCell (p := ⟨w.heap.size + 1, 0, none⟩) (by simp) _).setCell (p := ⟨w.heap.size + 1, 1, none⟩) (by simp) _).setCell (p := ⟨w.heap.size + 1, 2, none⟩) (by simp) _).setCell (p := ⟨w.heap.size + 1, 3, none⟩) (by simp) _).mono (by omega)
  · exact ((((Below.setCell hx1 (p := ⟨w.heap.size, 1, none⟩) (by simp) _).setCell (p := ⟨w.heap.size + 1, 0, none⟩) (by simp) _).setCell (p := ⟨w.heap.size + 1, 1, none⟩) (by simp) _).setCell (p := ⟨w.heap.size + 1, 2, none⟩) (by simp) _).setCell (p := ⟨w.heap.size + 1, 3, none⟩) (by simp) _

theorem newblk (w : World) (o : Obj) : (w.alloc o).heap[w.heap.size]? = some o := by
  show (w.heap.push o)[w.heap.size]? = some o
  simp
theorem Ext.blk {W w1 : World} (hb : Ext W w1) {B : Nat} {o : Obj} (h : W.heap[B]? = some o) : w1.heap[B]? = some o :=
  (hb.block B (Array.getElem?_eq_some_iff.1 h).1).trans h
theorem blk4 {w : World} {B : Nat} {c0 c1 c2 c3 : Value} {T : TypeId} (h : w.heap[B]? = some (.cells #[c0, c1, c2, c3] T (0, 0))) :
    w.cell? ⟨B, 0, none⟩ = some c0 ∧ w.cell? ⟨B, 1, none⟩ = some c1 ∧ w.cell? ⟨B, 2, none⟩ = some c2 ∧ w.cell? ⟨B, 3, none⟩ = some c3 ∧
    w.frozen? ⟨B, 0, none⟩ = false ∧ w.frozen? ⟨B, 1, none⟩ = false ∧ w.frozen? ⟨B, 2, none⟩ = false ∧ w.frozen? ⟨B, 3, none⟩ = false :=
  ⟨by rw [Lib.cell_of_heap h]; rfl, by rw [Lib.cell_of_heap h]; rfl, by rw [Lib.cell_of_heap h]; rfl, by rw [Lib.cell_of_heap h]; rfl, Lib.frozen_of_heap h 0, Lib.frozen_of_heap h 1, Lib.frozen_of_heap h 2, Lib.frozen_of_heap h 3⟩
theorem blk_lt {w : World} {B : Nat} {o : Obj} (h : w.heap[B]? = some o) : B < w.heap.size := (Array.getElem?_eq_some_iff.1 h).1

theorem Ext.st4 {w w1 : World} (h : Ext w w1) {B : Nat} (hB : w.heap.size ≤ B) (a b c d : Value) : Ext w ((((w1.setCell ⟨B, 0, none⟩ a).setCell ⟨B, 1, none⟩ b).setCell ⟨B, 2, none⟩ c).setCell ⟨B, 3, none⟩ d) :=
  (((Below.setCell h (p := ⟨B, 0, none⟩) hB _).setCell (p := ⟨B, 1, none⟩) hB _).setCell (p := ⟨B, 2, none⟩) hB _).setCell (p := ⟨B, 3, none⟩) hB _
theorem OwnB.st4 {C : Nat} {w : World} {v : Value} {l : List UInt8} (h : OwnB C w v l) {B : Nat} (hB : B < C) (a b c d : Value) : OwnB C ((((w.setCell ⟨B, 0, none⟩ a).setCell ⟨B, 1, none⟩ b).setCell ⟨B, 2, none⟩ c).setCell ⟨B, 3, none⟩ d) v l :=
  (((h.setCell (p := ⟨B, 0, none⟩) hB _).setCell (p := ⟨B, 1, none⟩) hB _).setCell (p := ⟨B, 2, none⟩) hB _).setCell (p := ⟨B, 3, none⟩) hB _

set_option maxHeartbeats 1000000 in
theorem new_bad (k : ByteArray) (a : Option Addr) (n c d b : Nat) (w : World) (hs : k.size ≤ 9223372036854775807) (hn : n ≤ 9223372036854775807) (hb : b < 18446744073709551616) (hk : chk k.size n b ≠ 0) :
    Calls Tryd.prog 22 #[.string k, .slice a n c, .int .u64 d, .int .u64 b] w fun e w' => e = .returned (.tuple #[.agg #[.string ⟨#[]⟩, .slice none 0 0, .int .u64 0, .int .u64 0], .int .i64 (chk k.size n b)]) ∧ Ext w w' := by
  have c1 : Box _ := ⟨fun w => check_any k a n c b w hs hn hb⟩
  have h1 : (chk k.size n b != 0) = true := by rw [bne_iff_ne]; exact hk
  generalize chk k.size n b = x at *
  have hx : Ext w (w.alloc (.cells #[.string ⟨#[]⟩, .slice none 0 0, .int .u64 0, .int .u64 0] 33)) := Ext.alloc (Below.refl _ _) _
  have hB := newblk w (.cells #[.string ⟨#[]⟩, .slice none 0 0, .int .u64 0, .int .u64 0] 33)
  clear hk
  go_enter Tryd.func22, Tryd.ntmps22
  go_wp2_with (first | (go_at_call 31; (with_reducible refine (c1.out _).mono ?_); rintro e w1 ⟨rfl, hb1⟩; have hx := Ext.trans' hx hb1; have hB := Ext.blk hb1 hB; obtain ⟨m0, m1, m2, m3, f0, f1, f2, f3⟩ := blk4 hB; clear hB))
  refine bodyPost_ret (v := .tuple #[.agg #[.string ⟨#[]⟩, .slice none 0 0, .int .u64 0, .int .u64 0], .int .i64 x]) ?_ rfl ⟨rfl, Ext.st4 hx (Nat.le_refl _) _ _ _ _⟩
  simp [results, Tryd.results22, go_sem, m0, m1, m2, m3]

set_option maxHeartbeats 1000000 in
theorem new_ok (k : ByteArray) (v : Value) (d b : Nat) (l : List UInt8) (w : World) (hs : k.size ≤ 9223372036854775807) (hb : b < 18446744073709551616) (hk : chk k.size l.length b = 0) (hv : By w v l) :
    Calls Tryd.prog 22 #[.string k, v, .int .u64 d, .int .u64 b] w fun e w' => ∃ v', e = .returned (.tuple #[.agg #[.string k, v', .int .u64 d, .int .u64 b], .int .i64 0]) ∧ OwnB w.heap.size w' v' l ∧ Ext w w' := by
  obtain ⟨a, c, rfl, hn⟩ := hv.size
  have c1 : Box _ := ⟨fun w => check_any k a l.length c b w hs hn hb⟩
  have c2 : Box (∀ w1, Ext w w1 → _) := ⟨fun w1 hx => copy_any k _ d b l w1 (hv.ext hx)⟩
  rw [hk] at c1
  have hx : Ext w (w.alloc (.cells #[.string ⟨#[]⟩, .slice none 0 0, .int .u64 0, .int .u64 0] 33)) := Ext.alloc (Below.refl _ _) _
  have hB := newblk w (.cells #[.string ⟨#[]⟩, .slice none 0 0, .int .u64 0, .int .u64 0] 33)
  clear hk hv
  go_enter Tryd.func22, Tryd.ntmps22
  go_wp2_with (first
    | (go_at_call 31; (with_reducible refine (c1.out _).mono ?_); rintro e w1 ⟨rfl, hb1⟩; have hx := Ext.trans' hx hb1; have hB := Ext.blk hb1 hB)
    | (go_at_call 24; (with_reducible refine (c2.out _ hx).mono ?_); rintro e w2 ⟨v', rfl, ho, hb2⟩; obtain ⟨a1, c1', rfl⟩ := ho.shape; have ho := ho.mono (C := w.heap.size + 1) (blk_lt hB); have hx := Ext.trans' hx hb2; have hB := Ext.blk hb2 hB; obtain ⟨m0, m1, m2, m3, f0, f1, f2, f3⟩ := blk4 hB; clear hB))
  refine bodyPost_ret (v := .tuple #[.agg #[.string k, .slice a1 l.length c1', .int .u64 d, .int .u64 b], .int .i64 0]) ?_ rfl ⟨_, rfl, (ho.st4 (by omega) _ _ _ _).mono (by omega), Ext.st4 hx (Nat.le_refl _) _ _ _ _⟩
  simp [results, Tryd.results22, go_sem, m0, m1, m2, m3]

def fineN (k v b : Nat) : Bool := decide (chk k v b = 0)
set_option maxHeartbeats 1000000 in
theorem evalid_any (k : ByteArray) (a : Option Addr) (n c d b : Nat) (w : World) (hs : k.size ≤ 9223372036854775807) (hn : n ≤ 9223372036854775807) (hb : b < 18446744073709551616) :
    Calls Tryd.prog 23 #[.agg #[.string k, .slice a n c, .int .u64 d, .int .u64 b]] w fun e w' => e = .returned (.bool (fineN k.size n b)) ∧ Ext w w' := by
  have c1 : Box _ := ⟨fun w => check_any k a n c b w hs hn hb⟩
  have hx : Ext w (w.alloc (.cells #[.string k, .slice a n c, .int .u64 d, .int .u64 b] 33)) := Ext.alloc (Below.refl _ _) _
  unfold fineN
  generalize chk k.size n b = x at *
  go_enter Tryd.func23, Tryd.ntmps23
  go_wp2_with (first | (go_at_call 31; (with_reducible refine (c1.out _).mono ?_); rintro e w1 ⟨rfl, hb⟩; have hx := Ext.trans' hx hb))
  go_ret
  exact ⟨ret_bool (by rw [Bool.eq_iff_iff]; simp), hx⟩
set_option maxHeartbeats 1000000 in
theorem refEvalid_any (k : ByteArray) (a : Option Addr) (n c d b : Nat) (w : World) (hs : k.size ≤ 9223372036854775807) (hn : n ≤ 9223372036854775807) (hb : b < 18446744073709551616) :
    Calls Tryd.prog 42 #[.agg #[.string k, .slice a n c, .int .u64 d, .int .u64 b]] w fun e w' => e = .returned (.bool (fineN k.size n b)) ∧ Ext w w' := by
  have c1 : Box _ := ⟨fun w => refCheck_any k a n c b w hs hn hb⟩
  have hx : Ext w (w.alloc (.cells #[.string k, .slice a n c, .int .u64 d, .int .u64 b] 33)) := Ext.alloc (Below.refl _ _) _
  unfold fineN
  generalize chk k.size n b = x at *
  go_enter Tryd.func42, Tryd.ntmps42
  go_wp2_with (first | (go_at_call 16; (with_reducible refine (c1.out _).mono ?_); rintro e w' ⟨rfl, rfl⟩))
  go_ret
  exact ⟨ret_bool (by rw [Bool.eq_iff_iff]; simp), hx⟩

def eqN (k1 k2 : ByteArray) (l1 l2 : List UInt8) (d1 d2 b1 b2 : Nat) : Bool := decide (k1 = k2) && (l1 == l2) && decide (d1 = d2) && decide (b1 = b2)

set_option maxHeartbeats 2000000 in
theorem equal_any (k1 k2 : ByteArray) (v1 v2 : Value) (l1 l2 : List UInt8) (d1 d2 b1 b2 : Nat) (w : World) (h1 : By w v1 l1) (h2 : By w v2 l2) :
    Calls Tryd.prog 27 #[.agg #[.string k1, v1, .int .u64 d1, .int .u64 b1], .agg #[.string k2, v2, .int .u64 d2, .int .u64 b2]] w fun e w' => e = .returned (.bool (eqN k1 k2 l1 l2 d1 d2 b1 b2)) ∧ Ext w w' := by
  have c1 : Box (∀ w1, Ext w w1 → Calls Tryd.prog 52 #[v1, v2] w1 fun e w' => e = .returned (.bool (l1 == l2)) ∧ w1 = w') := ⟨fun w1 hx => beq_any v1 v2 l1 l2 w1 (h1.ext hx) (h2.ext hx)⟩
  obtain ⟨a1, e1, rfl, _⟩ := h1.size
  obtain ⟨a2, e2, rfl, _⟩ := h2.size
  have hx : Ext w ((w.alloc (.cells #[.string k1, .slice a1 l1.length e1, .int .u64 d1, .int .u64 b1] 33)).alloc (.cells #[.string k2, .slice a2 l2.length e2, .int .u64 d2, .int .u64 b2] 33)) := Ext.alloc (Ext.alloc (Below.refl _ _) _) _
  clear h1 h2
  unfold eqN
  generalize (l1 == l2) = q at *
  by_cases hk : k1 = k2
  · subst hk
    cases q
    · go_enter Tryd.func27, Tryd.ntmps27
      go_wp2_with (first | (go_at_call 52; (with_reducible refine (c1.out _ hx).mono ?_); rintro e w' ⟨rfl, rfl⟩))
      go_ret
      exact ⟨ret_bool (by simp), hx⟩
    · by_cases hd : d1 = d2
      · subst hd
        go_enter Tryd.func27, Tryd.ntmps27
        go_wp2_with (first | (go_at_call 52; (with_reducible refine (c1.out _ hx).mono ?_); rintro e w' ⟨rfl, rfl⟩))
        go_ret
        exact ⟨ret_bool (by rw [Bool.eq_iff_iff]; simp; try omega), hx⟩
      · have e3 : ((d1 : Int) == (d2 : Int)) = false := by rw [beq_eq_false_iff_ne]; omega
        go_enter Tryd.func27, Tryd.ntmps27
        go_wp2_with (first | (go_at_call 52; (with_reducible refine (c1.out _ hx).mono ?_); rintro e w' ⟨rfl, rfl⟩))
        go_ret
        exact ⟨ret_bool (by simp [hd]), hx⟩
  · have e3 : (k1.toList == k2.toList) = false := by rw [Lib.toList_data, Lib.toList_data, beq_eq_false_iff_ne]; exact fun e => hk (str_ext e)
    have HK := Box.mk hk
    clear hk
    go_enter Tryd.func27, Tryd.ntmps27
    go_wp2
    go_ret
    exact ⟨ret_bool (by simp [HK.out]), hx⟩
end Go.Proofs.YtboecabipkkcgaaDoor
