
import Derived.Test.YtapngkjgagapeaaDoorT3
import Derived.Test.YtapngkjgagapeaaDoorEM
/- Contracts of package entry and its reference: keys, checks, costs. -/
namespace Go.Proofs.YtapngkjgagapeaaDoor
open Go.RowKit

def vk (n : Nat) : Bool := decide (0 < n) && decide (n ≤ 250)
/-- The error of the parts of an entry, by their sizes. -/
def chk (k v b : Nat) : Int := if vk k = false ∨ b = 0 then 2 else if 65536 < v then 5 else 0

set_option maxHeartbeats 400000 in
theorem validKey_any (s : ByteArray) (w : World) (hs : s.size ≤ 9223372036854775807) :
    Calls Tryd.prog 74 #[.string s] w fun e w' => e = .returned (.bool (vk s.size)) ∧ w = w' := by
  unfold vk
  by_cases h : 0 < s.size
  · have h1 : (0 : Int) < (s.size : Int) := by omega
    go_enter Tryd.func74, Tryd.ntmps74
    go_wp2
    go_ret
    exact ⟨ret_bool (by simp [h]; omega), rfl⟩
  · have h1 : (s.size : Int) ≤ 0 := by omega
    go_enter Tryd.func74, Tryd.ntmps74
    go_wp2
    go_ret
    exact ⟨ret_bool (by simp [h]), rfl⟩

def fst2 (b0 : Bool) (e0 : Int) (b1 : Bool) (e1 : Int) : Int := bif b0 then e0 else bif b1 then e1 else 0

set_option maxHeartbeats 1000000 in
theorem first2_any (b0 : Bool) (e0 : Int) (b1 : Bool) (e1 : Int) (w : World) (B : Nat)
    (h0 : w.cell? ⟨B, 0, none⟩ = some (.bool b0)) (h1 : w.cell? ⟨B, 1, none⟩ = some (.int .i64 e0)) (h2 : w.cell? ⟨B, 2, none⟩ = some (.bool b1)) (h3 : w.cell? ⟨B, 3, none⟩ = some (.int .i64 e1)) :
    Calls Tryd.prog 73 #[.slice (some ⟨B, 0, none⟩) 2 2] w fun e w' => e = .returned (.int .i64 (fst2 b0 e0 b1 e1)) ∧ Ext w w' := by
  have hB := lt_of_cell h0
  have H0 := Box.mk h0
  have H1 := Box.mk h1
  have H2 := Box.mk h2
  have H3 := Box.mk h3
  clear h0 h1 h2 h3
  go_enter Tryd.func73, Tryd.ntmps73
  go_wp2
  go_loopw [4, 7] (fun x i wr => ∃ k : Nat, k ≤ 2 ∧ i = .int .i64 k ∧ Box (1 ≤ k → b0 = false) ∧ Box (2 ≤ k → b1 = false) ∧ Ext w wr) (fun _ i _ => 2 - (intOf i).toNat)
  case atStart => exact ⟨0, by omega, rfl, ⟨by omega⟩, ⟨by omega⟩, Below.refl _ _⟩
  case round =>
    obtain ⟨k, hk, rfl, p0, p1, hx⟩ := hrel
    have hlt := Nat.lt_of_lt_of_le hB hx.size
    obtain rfl | rfl | rfl : k = 0 ∨ k = 1 ∨ k = 2 := by omega
    · have c0 := hx.cell H0.out
      have c1 := hx.cell H1.out
      clear p0 p1 hk
      cases b0
      · go_wp2
        go_roundw
        case rel => exact ⟨1, by omega, rfl, ⟨by simp⟩, ⟨by omega⟩, Ext.alloc hx _⟩
        case measure => simp [intOf]
      · go_wp2
        go_ret
        exact ⟨rfl, Ext.alloc hx _⟩
    · have c2 := hx.cell H2.out
      have c3 := hx.cell H3.out
      obtain rfl := p0.out (by omega)
      clear p0 p1 hk
      cases b1
      · go_wp2
        go_roundw
        case rel => exact ⟨2, by omega, rfl, ⟨by simp⟩, ⟨by simp⟩, Ext.alloc hx _⟩
        case measure => simp [intOf]
      · go_wp2
        go_ret
        exact ⟨rfl, Ext.alloc hx _⟩
    · obtain rfl := p0.out (by omega)
      obtain rfl := p1.out (by omega)
      clear p0 p1 hk
      go_wp2
      go_ret
      exact ⟨rfl, hx⟩

set_option maxHeartbeats 1000000 in
theorem check_any (s : ByteArray) (a : Option Addr) (n c b : Nat) (w : World) (hs : s.size ≤ 9223372036854775807) (hn : n ≤ 9223372036854775807) (hb : b < 18446744073709551616) :
    Calls Tryd.prog 64 #[.string s, .slice a n c, .int .u64 b] w fun e w' => e = .returned (.int .i64 (chk s.size n b)) ∧ Ext w w' := by
  have c1 : Box _ := ⟨fun w => validKey_any s w hs⟩
  have c2 : Box (∀ b0 b1 w, Calls Tryd.prog 73 #[.slice (some ⟨w.heap.size, 0, none⟩) 2 2] (w.alloc (.cells #[.bool b0, .int .i64 2, .bool b1, .int .i64 5] 122)) fun e w' => e = .returned (.int .i64 (fst2 b0 2 b1 5)) ∧ Ext w w') := ⟨fun b0 b1 w => (first2_any b0 2 b1 5 _ w.heap.size (by go_simp) (by go_simp) (by go_simp) (by go_simp)).mono fun e w' ⟨he, hb⟩ => ⟨he, Ext.trans' (Ext.alloc (Below.refl _ _) _) hb⟩⟩
  have hr : Box (chk s.size n b = fst2 (!vk s.size || decide (b = 0)) 2 (decide ((65536 : Int) < (n : Int))) 5) := ⟨by
    rw [show decide ((65536 : Int) < (n : Int)) = decide (65536 < n) from decide_eq_decide.2 (by omega)]
    unfold chk fst2
    cases vk s.size <;> by_cases h1 : b = 0 <;> by_cases h2 : 65536 < n <;> simp [h1, h2]⟩
  have hx : Ext w w := Below.refl _ _
  rw [hr.out]
  generalize vk s.size = k at *
  clear hr
  cases k
  · go_enter Tryd.func64, Tryd.ntmps64
    go_wp2_with (first | (go_at_call 74; (with_reducible refine (c1.out _).mono ?_); rintro e w' ⟨rfl, rfl⟩) | (go_at_call 73; (with_reducible refine (c2.out _ _ _).mono ?_); rintro e w1 ⟨rfl, hb⟩; have hx := Ext.trans' hx hb))
    go_ret
    exact ⟨ret_int (by simp), hx⟩
  · by_cases h : b = 0
    · subst h
      go_enter Tryd.func64, Tryd.ntmps64
      go_wp2_with (first | (go_at_call 74; (with_reducible refine (c1.out _).mono ?_); rintro e w' ⟨rfl, rfl⟩) | (go_at_call 73; (with_reducible refine (c2.out _ _ _).mono ?_); rintro e w1 ⟨rfl, hb⟩; have hx := Ext.trans' hx hb))
      go_ret
      exact ⟨ret_int (by simp), hx⟩
    · have h1 : ((b : Int) == 0) = false := by rw [beq_eq_false_iff_ne]; omega
      go_enter Tryd.func64, Tryd.ntmps64
      go_wp2_with (first | (go_at_call 74; (with_reducible refine (c1.out _).mono ?_); rintro e w' ⟨rfl, rfl⟩) | (go_at_call 73; (with_reducible refine (c2.out _ _ _).mono ?_); rintro e w1 ⟨rfl, hb⟩; have hx := Ext.trans' hx hb))
      go_ret
      exact ⟨ret_int (by simp [h]), hx⟩

def costV (k v : Nat) : Int := if chk k v 1 = 0 then k + v + 48 else 0

end Go.Proofs.YtapngkjgagapeaaDoor
