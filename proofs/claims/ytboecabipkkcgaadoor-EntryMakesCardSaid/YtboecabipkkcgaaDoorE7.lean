import Derived.Test.YtboecabipkkcgaaDoorE6
/- Contracts of the texts of entries: Text of package entry and of its reference. -/
namespace Go.Proofs.YtboecabipkkcgaaDoor
open Go.RowKit

set_option maxHeartbeats 1000000 in
theorem number_one (n : Nat) (w : World) (h : n < 10) : Calls Tryd.prog 36 #[.int .u64 n] w fun e w' => e = .returned (.string (digs n)) ∧ w = w' := by
  rw [digs_one n h]
  obtain rfl | rfl | rfl | rfl | rfl | rfl | rfl | rfl | rfl | rfl : n = 0 ∨ n = 1 ∨ n = 2 ∨ n = 3 ∨ n = 4 ∨ n = 5 ∨ n = 6 ∨ n = 7 ∨ n = 8 ∨ n = 9 := by omega
  all_goals
    clear h
    go_enter Tryd.func36, Tryd.ntmps36
    go_wp2
    go_ret
    exact ⟨rfl, rfl⟩
set_option maxHeartbeats 1000000 in
theorem number_k (k : Nat) : ∀ (n : Nat) (w : World), n < 10 ^ (k + 1) → n < 18446744073709551616 → Calls Tryd.prog 36 #[.int .u64 n] w fun e w' => e = .returned (.string (digs n)) ∧ w = w' := by
  induction k with
  | zero => intro n w h _; exact number_one n w (by simpa using h)
  | succ k ih =>
    intro n w h h2
    by_cases h10 : n < 10
    · exact number_one n w h10
    · have c1 : Box _ := ⟨fun w => ih (n / 10) w (by rw [Nat.pow_succ] at h; omega) (by omega)⟩
      have c2 : Box _ := ⟨fun w => number_one (n % 10) w (by omega)⟩
      rw [digs_ten n (by omega)]
      have hx := digs_size (n / 10) (by omega)
      have hy := digs_size (n % 10) (by omega)
      simp only [Int.natCast_ediv, Int.natCast_emod, Int.cast_ofNat_Int] at c1 c2
      generalize digs (n / 10) = x at *
      generalize digs (n % 10) = y at *
      clear ih h
      go_enter Tryd.func36, Tryd.ntmps36
      go_wp2_with (first | (go_at_call 36; (with_reducible refine (c1.out _).mono ?_); rintro e w' ⟨rfl, rfl⟩) | (go_at_call 36; (with_reducible refine (c2.out _).mono ?_); rintro e w' ⟨rfl, rfl⟩))
      go_ret
      exact ⟨rfl, rfl⟩
theorem number_any (n : Nat) (w : World) (h : n < 18446744073709551616) : Calls Tryd.prog 36 #[.int .u64 n] w fun e w' => e = .returned (.string (digs n)) ∧ w = w' :=
  number_k 19 n w (by omega) h

def sp : ByteArray := ⟨#[32]⟩
theorem text_cat (k l : List UInt8) (d b : Nat) : digs b ++ ⟨#[32]⟩ ++ txt d ++ ⟨#[32]⟩ ++ ⟨(hexL k).toArray⟩ ++ ⟨#[32]⟩ ++ ⟨(hexL l).toArray⟩ = (⟨(Ent.text ⟨k, l, d, b⟩).toArray⟩ : ByteArray) := by
  apply ByteArray.ext
  apply Array.ext'
  simp [Ent.text, digs, txt, ByteArray.data_append, List.append_assoc]
theorem hexB_size (l : List UInt8) (n : Nat) (h : l.length ≤ n) : (⟨(hexL l).toArray⟩ : ByteArray).size ≤ 2 * n + 1 := by
  have := hexL_len l
  show (hexL l).toArray.size ≤ _
  simp; omega

set_option maxRecDepth 100000 in
set_option maxHeartbeats 4000000 in
theorem etext_ok (k : ByteArray) (v : Value) (l : List UInt8) (d b : Nat) (w : World) (hk : k.size ≤ 100000) (hl : l.length ≤ 100000) (hd : d < 18446744073709551616) (hb : b < 18446744073709551616) (hf : chk k.size l.length b = 0) (hv : By w v l) (ht : Tabs w) :
    Calls Tryd.prog 15 #[.agg #[.string k, v, .int .u64 d, .int .u64 b]] w fun e w' => e = .returned (.tuple #[.string ⟨(Ent.text ⟨k.data.toList, l, d, b⟩).toArray⟩, .int .i64 0]) ∧ Ext w w' := by
  obtain ⟨a, c, rfl, hn⟩ := hv.size
  have c0 : Box _ := ⟨fun w => check_any k a l.length c b w (by omega) hn hb⟩
  rw [hf] at c0
  have c1 : Box (∀ w', Ext w w' → _) := ⟨fun w' h => formatUint_any b w' hb (ht.ext h)⟩
  have c2 : Box (∀ w', Ext w w' → _) := ⟨fun w' h => text_any d w' hd (ht.ext h)⟩
  have c3 : Box _ := ⟨fun w' => codeS_any k w' hk⟩
  have c4 : Box (∀ w', Ext w w' → _) := ⟨fun w' h => codeB_any (.slice a l.length c) l w' (hv.ext h) hl⟩
  rw [← text_cat]
  have s1 := digs_size b hb
  have s2 := txt_size d hd
  have s3 := hexB_size k.data.toList 100000 hk
  have s4 := hexB_size l 100000 hl
  have hx : Ext w (w.alloc (.cells #[.string k, .slice a l.length c, .int .u64 d, .int .u64 b] 33)) := Ext.alloc (Below.refl _ _) _
  have hB := newblk w (.cells #[.string k, .slice a l.length c, .int .u64 d, .int .u64 b] 33)
  generalize digs b = x1 at *
  generalize txt d = x2 at *
  generalize (⟨(hexL k.data.toList).toArray⟩ : ByteArray) = x3 at *
  generalize (⟨(hexL l).toArray⟩ : ByteArray) = x4 at *
  have g1 : ¬ 9223372036854775807 < x1.size + 1 := by omega
  have g2 : ¬ 9223372036854775807 < x1.size + 1 + x2.size := by omega
  have g3 : ¬ 9223372036854775807 < x1.size + 1 + x2.size + 1 := by omega
  have g4 : ¬ 9223372036854775807 < x1.size + 1 + x2.size + 1 + x3.size := by omega
  have g5 : ¬ 9223372036854775807 < x1.size + 1 + x2.size + 1 + x3.size + 1 := by omega
  have g6 : ¬ 9223372036854775807 < x1.size + 1 + x2.size + 1 + x3.size + 1 + x4.size := by omega
  clear hf hv ht hk hl hd hb
  go_enter Tryd.func15, Tryd.ntmps15
  go_wp2_with (first
    | (go_at_call 31; (with_reducible refine (c0.out _).mono ?_); rintro e w1 ⟨rfl, hb1⟩; have hx := Ext.trans' hx hb1; have hB := Ext.blk hb1 hB))
  obtain ⟨m0, m1, m2, m3, _⟩ := blk4 hB
  go_region_held3 (fun w' => w'.cell? ⟨w.heap.size, 0, none⟩ = some (.string k) ∧ w'.cell? ⟨w.heap.size, 1, none⟩ = some (.slice a l.length c) ∧ w'.cell? ⟨w.heap.size, 2, none⟩ = some (.int .u64 d) ∧ w'.cell? ⟨w.heap.size, 3, none⟩ = some (.int .u64 b))
    (first
      | go_keep
      | (exact ⟨m0, m1, m2, m3⟩))
    (first
      | (go_at_call 32; refine (c1.out _ (Ext.drewN hx 1)).mono ?_; rintro e w1 ⟨rfl, hb1⟩; have hx := Ext.trans' (Ext.drewN hx 1) hb1; have hB := Ext.blk hb1 hB; obtain ⟨m0, m1, m2, m3, _⟩ := blk4 hB)
      | (go_at_call 33; refine (c2.out _ hx).mono ?_; rintro e w1 ⟨rfl, hb1⟩; have hx := Ext.trans' hx hb1; have hB := Ext.blk hb1 hB; obtain ⟨m0, m1, m2, m3, _⟩ := blk4 hB)
      | (go_at_call 34; refine (c3.out _).mono ?_; rintro e w1 ⟨rfl, hb1⟩; have hx := Ext.trans' hx hb1; have hB := Ext.blk hb1 hB; obtain ⟨m0, m1, m2, m3, _⟩ := blk4 hB)
      | (go_at_call 35; refine (c4.out _ hx).mono ?_; rintro e w1 ⟨rfl, hb1⟩; have hx := Ext.trans' hx hb1; have hB := Ext.blk hb1 hB; obtain ⟨m0, m1, m2, m3, _⟩ := blk4 hB))
  all_goals
    clear hB
    go_wp2
    go_ret2
    exact ⟨rfl, hx⟩
end Go.Proofs.YtboecabipkkcgaaDoor
