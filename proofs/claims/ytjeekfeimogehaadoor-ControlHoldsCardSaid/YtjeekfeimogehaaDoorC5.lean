import Derived.Test.YtjeekfeimogehaaDoorC4
import Derived.Test.YtjeekfeimogehaaDoorShelf
import Derived.Lib.Join
import Derived.Lib.LaidTab
/- The texts of a group: the reference's number and Text. -/
namespace Go.Proofs.YtjeekfeimogehaaDoor
open Go.RowKit

theorem ownsRow_ext {w w' : World} (hb : Ext w w') {base : Nat} {e : TypeId} {size : Nat} {v : Value} {n : Nat} {xs : List Value} (h : w.ownsRow base e size v n xs) : w'.ownsRow base e size v n xs := by
  refine ⟨h.1, ?_⟩
  rcases h.2 with h2 | ⟨g, cap, cur, hv, hb1, hg, r⟩
  · exact Or.inl h2
  · exact Or.inr ⟨g, cap, cur, hv, hb1, (hb.block g (Array.getElem?_eq_some_iff.1 hg).1).trans hg, r⟩

def digs (n : Nat) : ByteArray := ⟨(Lib.decDigits n).toArray⟩
theorem digs_ten (n : Nat) (h : 10 ≤ n) : digs n = digs (n / 10) ++ digs (n % 10) := by
  have e : Lib.decDigits n = Lib.decDigits (n / 10) ++ Lib.decDigits (n % 10) := by
    rw [Lib.decDigits, dif_neg (by omega)]
    congr 1
    rw [Lib.decDigits, dif_pos (by omega)]
  unfold digs
  rw [e]
  apply ByteArray.ext
  simp [ByteArray.data_append]
theorem digs_one (n : Nat) (h : n < 10) : digs n = ⟨#[UInt8.ofNat (48 + n)]⟩ := by
  unfold digs; rw [Lib.decDigits, dif_pos h]
theorem dd_len (n : Nat) (h : n < 1000) : (Lib.decDigits n).length ≤ 3 := by
  rw [Lib.decDigits]; split
  · simp
  · rw [Lib.decDigits]; split
    · simp
    · rw [Lib.decDigits, dif_pos (by omega)]; simp

theorem digs_size (n : Nat) (h : n < 1000) : (digs n).size ≤ 3 := dd_len n h

set_option maxHeartbeats 1000000 in
theorem number1 (n : Nat) (w : World) (h : n < 10) : Calls Tryd.prog 42 #[.int .i64 n] w fun e w' => e = .returned (.string (digs n)) ∧ w = w' := by
  rw [digs_one n h]
  obtain rfl | rfl | rfl | rfl | rfl | rfl | rfl | rfl | rfl | rfl : n = 0 ∨ n = 1 ∨ n = 2 ∨ n = 3 ∨ n = 4 ∨ n = 5 ∨ n = 6 ∨ n = 7 ∨ n = 8 ∨ n = 9 := by omega
  all_goals
    clear h
    go_enter Tryd.func42, Tryd.ntmps42
    go_wp2
    go_ret
    exact ⟨rfl, rfl⟩

set_option maxHeartbeats 1000000 in
theorem number2 (n : Nat) (w : World) (h : n < 100) : Calls Tryd.prog 42 #[.int .i64 n] w fun e w' => e = .returned (.string (digs n)) ∧ ∃ q, w' = w.drewN q := by
  by_cases h10 : n < 10
  · exact (number1 n w h10).mono fun e w' ⟨a, b⟩ => ⟨a, 0, b ▸ rfl⟩
  · have c1 : Box _ := ⟨fun w => number1 (n / 10) w (by omega)⟩
    have c2 : Box _ := ⟨fun w => number1 (n % 10) w (by omega)⟩
    rw [digs_ten n (by omega)]
    have hx := digs_size (n / 10) (by omega)
    have hy := digs_size (n % 10) (by omega)
    simp only [Int.natCast_ediv, Int.natCast_emod, Int.cast_ofNat_Int] at c1 c2
    generalize digs (n / 10) = x at *
    generalize digs (n % 10) = y at *
    go_enter Tryd.func42, Tryd.ntmps42
    go_wp2_with (first | (go_at_call 42; (with_reducible refine (c1.out _).mono ?_); rintro e w' ⟨rfl, rfl⟩) | (go_at_call 42; (with_reducible refine (c2.out _).mono ?_); rintro e w' ⟨rfl, rfl⟩))
    go_ret
    exact ⟨rfl, ⟨0, rfl⟩⟩

set_option maxHeartbeats 1000000 in
theorem number3 (n : Nat) (w : World) (h : n < 256) : Calls Tryd.prog 42 #[.int .i64 n] w fun e w' => e = .returned (.string (digs n)) ∧ ∃ q, w' = w.drewN q := by
  by_cases h10 : n < 10
  · exact (number1 n w h10).mono fun e w' ⟨a, b⟩ => ⟨a, 0, b ▸ rfl⟩
  · have c1 : Box _ := ⟨fun w => number2 (n / 10) w (by omega)⟩
    have c2 : Box _ := ⟨fun w => number1 (n % 10) w (by omega)⟩
    rw [digs_ten n (by omega)]
    have hx := digs_size (n / 10) (by omega)
    have hy := digs_size (n % 10) (by omega)
    simp only [Int.natCast_ediv, Int.natCast_emod, Int.cast_ofNat_Int] at c1 c2
    generalize digs (n / 10) = x at *
    generalize digs (n % 10) = y at *
    go_enter Tryd.func42, Tryd.ntmps42
    go_wp2_with (first | (go_at_call 42; (with_reducible refine (c1.out _).mono ?_); rintro e w' ⟨rfl, q, rfl⟩) | (go_at_call 42; (with_reducible refine (c2.out _).mono ?_); rintro e w' ⟨rfl, rfl⟩))
    go_ret
    exact ⟨rfl, ⟨_, rfl⟩⟩

def tok (c : Nat) : ByteArray := if c = 128 then ⟨#[45]⟩ else if c = 254 then ⟨#[120]⟩ else digs c
def outB (l : Nat → Nat) : Nat → ByteArray
  | 0 => ⟨#[]⟩
  | k + 1 => (if 0 < k then outB l k ++ ⟨#[32]⟩ else outB l k) ++ tok (l k)
theorem tok_size (c : Nat) (h : c < 256) : (tok c).size ≤ 3 := by
  unfold tok; split
  · decide
  · split
    · decide
    · exact digs_size c (by omega)
theorem outB_size (l : Nat → Nat) (hl : ∀ i, l i < 256) (k : Nat) : (outB l k).size ≤ 4 * k := by
  induction k with
  | zero => exact Nat.le_refl _
  | succ k ih =>
    have ht := tok_size (l k) (hl k)
    have h1 : (⟨#[32]⟩ : ByteArray).size = 1 := rfl
    unfold outB
    split <;> simp only [ByteArray.size_append] <;> omega

set_option maxHeartbeats 4000000 in
theorem refText_any (W : Int) (w : World) (h0 : 0 ≤ W) (h1 : W < 18446744073709551616) :
    Calls Tryd.prog 26 #[.int .u64 W] w fun e w' => e = .returned (.string (outB (WM.lane W.toNat) 8)) ∧ Below w.heap.size w w' := by
  have c0 : Box _ := ⟨fun w => refBytes_any W w h0 h1⟩
  have cn : Box _ := ⟨fun i w => number3 (WM.lane W.toNat i) w (WM.lane_lt _ _)⟩
  have hl := WM.lane_lt W.toNat
  generalize WM.lane W.toNat = l at *
  unfold A8 at c0
  have hsz := Box.mk (outB_size l hl)
  have hts : Box (∀ i, (digs (l i)).size ≤ 3) := ⟨fun i => digs_size _ (by have := hl i; omega)⟩
  have Hl := Box.mk hl
  clear h0 h1 hl
  go_enter Tryd.func26, Tryd.ntmps26
  go_wp2_with (first | (go_at_call 28; (with_reducible refine (c0.out _).mono ?_); rintro e w1 ⟨rfl, hb⟩))
  go_loopw [3, 5] (fun s i wr => ∃ k : Nat, k ≤ 8 ∧ i = .int .i64 k ∧ s = .string (outB l k) ∧ ∃ q, wr = (w1.alloc (.cells #[.int .u8 (l 0), .int .u8 (l 1), .int .u8 (l 2), .int .u8 (l 3), .int .u8 (l 4), .int .u8 (l 5), .int .u8 (l 6), .int .u8 (l 7)] 44)).drewN q) (fun _ i _ => 8 - (intOf i).toNat)
  case atStart => exact ⟨0, by omega, rfl, rfl, 0, rfl⟩
  case round =>
    obtain ⟨k, hk, rfl, rfl, q, rfl⟩ := hrel
    by_cases hlt : k < 8
    · have hcn := Box.mk (cn.out k)
      obtain ⟨k1, hk1⟩ : ∃ k1, Box (k1 = k + 1) := ⟨_, ⟨rfl⟩⟩
      have hout : Box (outB l k1 = (if 0 < k then outB l k ++ ⟨#[32]⟩ else outB l k) ++ tok (l k)) := ⟨by rw [hk1.out]; rfl⟩
      have hs := hsz.out k
      have hd := hts.out k
      have hL := Hl.out k
      have ht : tok (l k) = if l k = 128 then ⟨#[45]⟩ else if l k = 254 then ⟨#[120]⟩ else digs (l k) := rfl
      generalize outB l k = s at *
      clear hsz hts Hl c0 cn
      by_cases h1 : l k = 128
      · have e1 : ((l k : Int) == 128) = true := by simp; omega
        have ht' := Box.mk (ht.trans (if_pos h1))
        clear ht h1 hd
        rcases lt8_nat k hlt with rfl | rfl | rfl | rfl | rfl | rfl | rfl | rfl
        all_goals
          clear hlt
          go_wp2_with (first | (go_at_call 42; (with_reducible refine (hcn.out _).mono ?_); rintro e w' ⟨rfl, q', rfl⟩))
          go_roundw
          case rel => exact ⟨k1, by have := hk1.out; omega, by rw [hk1.out]; go_num, by rw [hout.out, ht'.out]; rfl, _, rfl⟩
          case measure => simp [intOf]
      · have e1 : ((l k : Int) == 128) = false := by simp; omega
        by_cases h2 : l k = 254
        · have e2 : ((l k : Int) == 254) = true := by simp; omega
          have ht' := Box.mk ((ht.trans (if_neg h1)).trans (if_pos h2))
          clear ht h1 h2 hd
          rcases lt8_nat k hlt with rfl | rfl | rfl | rfl | rfl | rfl | rfl | rfl
          all_goals
            clear hlt
            go_wp2_with (first | (go_at_call 42; (with_reducible refine (hcn.out _).mono ?_); rintro e w' ⟨rfl, q', rfl⟩))
            go_roundw
            case rel => exact ⟨k1, by have := hk1.out; omega, by rw [hk1.out]; go_num, by rw [hout.out, ht'.out]; rfl, _, rfl⟩
            case measure => simp [intOf]
        · have e2 : ((l k : Int) == 254) = false := by simp; omega
          have ht' := Box.mk ((ht.trans (if_neg h1)).trans (if_neg h2))
          clear ht h1 h2
          generalize digs (l k) = d at *
          rcases lt8_nat k hlt with rfl | rfl | rfl | rfl | rfl | rfl | rfl | rfl
          all_goals
            clear hlt
            go_wp2_with (first | (go_at_call 42; (with_reducible refine (hcn.out _).mono ?_); rintro e w' ⟨rfl, q', rfl⟩))
            go_roundw
            case rel => exact ⟨k1, by have := hk1.out; omega, by rw [hk1.out]; go_num, by rw [hout.out, ht'.out]; rfl, _, rfl⟩
            case measure => simp [intOf]
    · obtain rfl : k = 8 := by omega
      go_wp2
      go_ret
      exact ⟨rfl, (Ext.alloc hb _).drewN _⟩
end Go.Proofs.YtjeekfeimogehaaDoor
