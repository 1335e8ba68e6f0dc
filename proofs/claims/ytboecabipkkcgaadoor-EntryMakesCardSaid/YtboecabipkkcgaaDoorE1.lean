import Derived.Test.YtboecabipkkcgaaDoorT3
import Derived.Test.YtboecabipkkcgaaDoorEM
/- Contracts of package entry and its reference: keys, checks, costs. -/
namespace Go.Proofs.YtboecabipkkcgaaDoor
open Go.RowKit

def vk (n : Nat) : Bool := decide (0 < n) && decide (n ≤ 250)
/-- The error of the parts of an entry, by their sizes. -/
def chk (k v b : Nat) : Int := if vk k = false ∨ b = 0 then 2 else if 65536 < v then 5 else 0

set_option maxHeartbeats 400000 in
theorem validKey_any (s : ByteArray) (w : World) (hs : s.size ≤ 9223372036854775807) :
    Calls Tryd.prog 11 #[.string s] w fun e w' => e = .returned (.bool (vk s.size)) ∧ w = w' := by
  unfold vk
  by_cases h : 0 < s.size
  · have h1 : (0 : Int) < (s.size : Int) := by omega
    go_enter Tryd.func11, Tryd.ntmps11
    go_wp2
    go_ret
    exact ⟨ret_bool (by simp [h]; omega), rfl⟩
  · have h1 : (s.size : Int) ≤ 0 := by omega
    go_enter Tryd.func11, Tryd.ntmps11
    go_wp2
    go_ret
    exact ⟨ret_bool (by simp [h]), rfl⟩

set_option maxHeartbeats 400000 in
theorem refValidKey_any (s : ByteArray) (w : World) (hs : s.size ≤ 9223372036854775807) :
    Calls Tryd.prog 12 #[.string s] w fun e w' => e = .returned (.bool (vk s.size)) ∧ w = w' := by
  unfold vk
  by_cases h : 0 < s.size
  · have h1 : (1 : Int) ≤ (s.size : Int) := by omega
    go_enter Tryd.func12, Tryd.ntmps12
    go_wp2
    go_ret
    exact ⟨ret_bool (by simp [h]; omega), rfl⟩
  · have h1 : (s.size : Int) < 1 := by omega
    go_enter Tryd.func12, Tryd.ntmps12
    go_wp2
    go_ret
    exact ⟨ret_bool (by simp [h]), rfl⟩

def fst2 (b0 : Bool) (e0 : Int) (b1 : Bool) (e1 : Int) : Int := bif b0 then e0 else bif b1 then e1 else 0

set_option maxHeartbeats 1000000 in
theorem first2_any (b0 : Bool) (e0 : Int) (b1 : Bool) (e1 : Int) (w : World) (B : Nat)
    (h0 : w.cell? ⟨B, 0, none⟩ = some (.bool b0)) (h1 : w.cell? ⟨B, 1, none⟩ = some (.int .i64 e0)) (h2 : w.cell? ⟨B, 2, none⟩ = some (.bool b1)) (h3 : w.cell? ⟨B, 3, none⟩ = some (.int .i64 e1)) :
    Calls Tryd.prog 53 #[.slice (some ⟨B, 0, none⟩) 2 2] w fun e w' => e = .returned (.int .i64 (fst2 b0 e0 b1 e1)) ∧ Ext w w' := by
  have hB := lt_of_cell h0
  have H0 := Box.mk h0
  have H1 := Box.mk h1
  have H2 := Box.mk h2
  have H3 := Box.mk h3
  clear h0 h1 h2 h3
  go_enter Tryd.func53, Tryd.ntmps53
  go_wp2
  go_loopw [4, 7] (fun x i wr => ∃ k : Nat, k ≤ 2 ∧ i = .int .i64 k ∧ Box (1 ≤ k → b0 = false) ∧ Box (2 ≤ k → b1 = false) ∧ Ext w wr) (fun _ i _ => 2 - (intOf i).toNat)
  case atStart => exact ⟨0, by omega, rfl, ⟨by omega⟩, ⟨by omega⟩, Below.refl _ _⟩
  case round =>
    obtain ⟨k, hk, rfl, p0, p1, hx⟩ := hrel
    have hlt := Nat.lt_of_lt_of_le hB hx.size
    obtain rfl | rfl | rfl : k = 0 ∨ k = 1 ∨ k = 2 := by omega
    · have c0 := hx.cell H0.out
      have c1 := hx.cell H1.out
      clear p0 p1 hk
      cases b0
      · go_wp2
        go_roundw
        case rel => exact ⟨1, by omega, rfl, ⟨by simp⟩, ⟨by omega⟩, Ext.alloc hx _⟩
        case measure => simp [intOf]
      · go_wp2
        go_ret
        exact ⟨rfl, Ext.alloc hx _⟩
    · have c2 := hx.cell H2.out
      have c3 := hx.cell H3.out
      obtain rfl := p0.out (by omega)
      clear p0 p1 hk
      cases b1
      · go_wp2
        go_roundw
        case rel => exact ⟨2, by omega, rfl, ⟨by simp⟩, ⟨by simp⟩, Ext.alloc hx _⟩
        case measure => simp [intOf]
      · go_wp2
        go_ret
        exact ⟨rfl, Ext.alloc hx _⟩
    · obtain rfl := p0.out (by omega)
      obtain rfl := p1.out (by omega)
      clear p0 p1 hk
      go_wp2
      go_ret
      exact ⟨rfl, hx⟩

set_option maxHeartbeats 1000000 in
theorem check_any (s : ByteArray) (a : Option Addr) (n c b : Nat) (w : World) (hs : s.size ≤ 9223372036854775807) (hn : n ≤ 9223372036854775807) (hb : b < 18446744073709551616) :
    Calls Tryd.prog 31 #[.string s, .slice a n c, .int .u64 b] w fun e w' => e = .returned (.int .i64 (chk s.size n b)) ∧ Ext w w' := by
  have c1 : Box _ := ⟨fun w => validKey_any s w hs⟩
  have c2 : Box (∀ b0 b1 w, Calls Tryd.prog 53 #[.slice (some ⟨w.heap.size, 0, none⟩) 2 2] (w.alloc (.cells #[.bool b0, .int .i64 2, .bool b1, .int .i64 5] 81)) fun e w' => e = .returned (.int .i64 (fst2 b0 2 b1 5)) ∧ Ext w w') := ⟨fun b0 b1 w => (first2_any b0 2 b1 5 _ w.heap.size (by go_simp) (by go_simp) (by go_simp) (by go_simp)).mono fun e w' ⟨he, hb⟩ => ⟨he, Ext.trans' (Ext.alloc (Below.refl _ _) _) hb⟩⟩
  have hr : Box (chk s.size n b = fst2 (!vk s.size || decide (b = 0)) 2 (decide ((65536 : Int) < (n : Int))) 5) := ⟨by
    rw [show decide ((65536 : Int) < (n : Int)) = decide (65536 < n) from decide_eq_decide.2 (by omega)]
    unfold chk fst2
    cases vk s.size <;> by_cases h1 : b = 0 <;> by_cases h2 : 65536 < n <;> simp [h1, h2]⟩
  have hx : Ext w w := Below.refl _ _
  rw [hr.out]
  generalize vk s.size = k at *
  clear hr
  cases k
  · go_enter Tryd.func31, Tryd.ntmps31
    go_wp2_with (first | (go_at_call 11; (with_reducible refine (c1.out _).mono ?_); rintro e w' ⟨rfl, rfl⟩) | (go_at_call 53; (with_reducible refine (c2.out _ _ _).mono ?_); rintro e w1 ⟨rfl, hb⟩; have hx := Ext.trans' hx hb))
    go_ret
    exact ⟨ret_int (by simp), hx⟩
  · by_cases h : b = 0
    · subst h
      go_enter Tryd.func31, Tryd.ntmps31
      go_wp2_with (first | (go_at_call 11; (with_reducible refine (c1.out _).mono ?_); rintro e w' ⟨rfl, rfl⟩) | (go_at_call 53; (with_reducible refine (c2.out _ _ _).mono ?_); rintro e w1 ⟨rfl, hb⟩; have hx := Ext.trans' hx hb))
      go_ret
      exact ⟨ret_int (by simp), hx⟩
    · have h1 : ((b : Int) == 0) = false := by rw [beq_eq_false_iff_ne]; omega
      go_enter Tryd.func31, Tryd.ntmps31
      go_wp2_with (first | (go_at_call 11; (with_reducible refine (c1.out _).mono ?_); rintro e w' ⟨rfl, rfl⟩) | (go_at_call 53; (with_reducible refine (c2.out _ _ _).mono ?_); rintro e w1 ⟨rfl, hb⟩; have hx := Ext.trans' hx hb))
      go_ret
      exact ⟨ret_int (by simp [h]), hx⟩

set_option maxHeartbeats 1000000 in
theorem refCheck_any (s : ByteArray) (a : Option Addr) (n c b : Nat) (w : World) (hs : s.size ≤ 9223372036854775807) (hn : n ≤ 9223372036854775807) (hb : b < 18446744073709551616) :
    Calls Tryd.prog 16 #[.string s, .slice a n c, .int .u64 b] w fun e w' => e = .returned (.int .i64 (chk s.size n b)) ∧ w = w' := by
  have c1 : Box _ := ⟨fun w => refValidKey_any s w hs⟩
  unfold chk
  generalize vk s.size = k at *
  cases k
  · rw [if_pos (Or.inl rfl)]
    go_enter Tryd.func16, Tryd.ntmps16
    go_wp2_with (first | (go_at_call 12; (with_reducible refine (c1.out _).mono ?_); rintro e w' ⟨rfl, rfl⟩))
    go_ret
    exact ⟨rfl, rfl⟩
  · by_cases h : b = 0
    · rw [if_pos (Or.inr h)]
      subst h
      go_enter Tryd.func16, Tryd.ntmps16
      go_wp2_with (first | (go_at_call 12; (with_reducible refine (c1.out _).mono ?_); rintro e w' ⟨rfl, rfl⟩))
      go_ret
      exact ⟨rfl, rfl⟩
    · have h1 : ((b : Int) == 0) = false := by rw [beq_eq_false_iff_ne]; omega
      rw [if_neg (by simp [h])]
      by_cases h2 : 65536 < n
      · rw [if_pos h2]
        go_enter Tryd.func16, Tryd.ntmps16
        go_wp2_with (first | (go_at_call 12; (with_reducible refine (c1.out _).mono ?_); rintro e w' ⟨rfl, rfl⟩))
        go_ret
        exact ⟨rfl, rfl⟩
      · rw [if_neg h2]
        go_enter Tryd.func16, Tryd.ntmps16
        go_wp2_with (first | (go_at_call 12; (with_reducible refine (c1.out _).mono ?_); rintro e w' ⟨rfl, rfl⟩))
        go_ret
        exact ⟨rfl, rfl⟩

def costV (k v : Nat) : Int := if chk k v 1 = 0 then k + v + 48 else 0

set_option maxHeartbeats 1000000 in
theorem cost_any (s : ByteArray) (a : Option Addr) (n c : Nat) (w : World) (hs : s.size ≤ 9223372036854775807) (hn : n ≤ 9223372036854775807) :
    Calls Tryd.prog 25 #[.string s, .slice a n c] w fun e w' => e = .returned (.tuple #[.int .i64 (costV s.size n), .int .i64 (chk s.size n 1)]) ∧ Ext w w' := by
  have c1 : Box (∀ w, Calls Tryd.prog 31 #[.string s, .slice a n c, .int .u64 1] w fun e w' => e = .returned (.int .i64 (chk s.size n 1)) ∧ Ext w w') := ⟨fun w => check_any s a n c 1 w hs hn (by omega)⟩
  have hx : Ext w w := Below.refl _ _
  unfold costV
  by_cases h : chk s.size n 1 = 0
  · have hb : s.size ≤ 250 ∧ n ≤ 65536 := by
      unfold chk vk at h
      constructor
      · by_cases h1 : s.size ≤ 250
        · exact h1
        · simp [h1] at h
      · by_cases h1 : n ≤ 65536
        · exact h1
        · simp at h; split at h <;> omega
    obtain ⟨hb1, hb2⟩ := hb
    rw [if_pos h]
    rw [h] at c1 ⊢
    clear h
    go_enter Tryd.func25, Tryd.ntmps25
    go_wp2_with (first | (go_at_call 31; (with_reducible refine (c1.out _).mono ?_); rintro e w1 ⟨rfl, hb⟩; have hx := Ext.trans' hx hb))
    go_ret2
    exact ⟨rfl, hx⟩
  · rw [if_neg h]
    have h1 : (chk s.size n 1 == 0) = false := by rw [beq_eq_false_iff_ne]; exact h
    have h2 : (chk s.size n 1 != 0) = true := by rw [bne_iff_ne]; exact h
    generalize chk s.size n 1 = k at *
    clear h
    go_enter Tryd.func25, Tryd.ntmps25
    go_wp2_with (first | (go_at_call 31; (with_reducible refine (c1.out _).mono ?_); rintro e w1 ⟨rfl, hb⟩; have hx := Ext.trans' hx hb))
    go_ret2
    exact ⟨rfl, hx⟩

set_option maxHeartbeats 1000000 in
theorem refCost_any (s : ByteArray) (a : Option Addr) (n c : Nat) (w : World) (hs : s.size ≤ 9223372036854775807) (hn : n ≤ 9223372036854775807) :
    Calls Tryd.prog 10 #[.string s, .slice a n c] w fun e w' => e = .returned (.tuple #[.int .i64 (costV s.size n), .int .i64 (chk s.size n 1)]) ∧ w = w' := by
  have c1 : Box (∀ w, Calls Tryd.prog 16 #[.string s, .slice a n c, .int .u64 1] w fun e w' => e = .returned (.int .i64 (chk s.size n 1)) ∧ w = w') := ⟨fun w => refCheck_any s a n c 1 w hs hn (by omega)⟩
  unfold costV
  by_cases h : chk s.size n 1 = 0
  · have hb : s.size ≤ 250 ∧ n ≤ 65536 := by
      unfold chk vk at h
      constructor
      · by_cases h1 : s.size ≤ 250
        · exact h1
        · simp [h1] at h
      · by_cases h1 : n ≤ 65536
        · exact h1
        · simp at h; split at h <;> omega
    obtain ⟨hb1, hb2⟩ := hb
    rw [if_pos h]
    rw [h] at c1 ⊢
    clear h
    go_enter Tryd.func10, Tryd.ntmps10
    go_wp2_with (first | (go_at_call 16; (with_reducible refine (c1.out _).mono ?_); rintro e w' ⟨rfl, rfl⟩))
    go_ret2
    exact ⟨ret_int2 (by omega) rfl, rfl⟩
  · rw [if_neg h]
    have h1 : (chk s.size n 1 == 0) = false := by rw [beq_eq_false_iff_ne]; exact h
    have h2 : (chk s.size n 1 != 0) = true := by rw [bne_iff_ne]; exact h
    generalize chk s.size n 1 = k at *
    clear h
    go_enter Tryd.func10, Tryd.ntmps10
    go_wp2_with (first | (go_at_call 16; (with_reducible refine (c1.out _).mono ?_); rintro e w' ⟨rfl, rfl⟩))
    go_ret2
    exact ⟨rfl, rfl⟩
end Go.Proofs.YtboecabipkkcgaaDoor
