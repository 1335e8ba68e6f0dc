import Derived.Test.YtboecabipkkcgaaDoorE16
/- Contracts of the law's few (one, two, three entries) and known. -/
namespace Go.Proofs.YtboecabipkkcgaaDoor
open Go.RowKit

theorem blk_cell {w : World} {B : Nat} {xs : Array Value} {T : TypeId} (h : w.heap[B]? = some (.cells xs T (0, 0))) (j : Nat) (v : Value) (hj : xs[j]? = some v) : w.cell? ⟨B, j, none⟩ = some v := by
  simp [World.cell?, h, hj]
def sm (s m : Nat) : Bool := decide (s ≤ 600) && decide (m ≤ 600)

set_option maxHeartbeats 2000000 in
theorem few1_any (s0 : ByteArray) (a0 : Option Addr) (m0 c0 d0 b0 : Nat) (w : World) (B : Nat) (hs0 : s0.size ≤ 9223372036854775807) (hm0 : m0 ≤ 9223372036854775807) (hB : w.heap[B]? = some (.cells #[.string s0, .slice a0 m0 c0, .int .u64 d0, .int .u64 b0] 33 (0, 0))) :
    Calls Tryd.prog 14 #[.slice (some ⟨B, 0, none⟩) 1 1] w fun e w' => e = .returned (.bool (sm s0.size m0)) ∧ Ext w w' := by
  have HB := Box.mk hB
  have hlt0 := blk_lt hB
  clear hB
  go_enter Tryd.func14, Tryd.ntmps14
  go_wp2
  go_loopw [4, 7] (fun _ i wr => ∃ k : Nat, k ≤ 1 ∧ i = .int .i64 k ∧ Box (1 ≤ k → sm s0.size m0 = true) ∧ Ext w wr) (fun _ i _ => 1 - (intOf i).toNat)
  case atStart => exact ⟨0, by omega, rfl, ⟨by omega⟩, Below.refl _ _⟩
  case round =>
    obtain ⟨k, hk, rfl, p0, hx⟩ := hrel
    have hlt := Nat.lt_of_lt_of_le hlt0 hx.size
    have hb := Ext.blk hx HB.out
    obtain rfl | rfl : k = 0 ∨ k = 1 := by omega
    · have e0 := blk_cell hb 0 _ rfl
      have e1 := blk_cell hb 1 _ rfl
      have e2 := blk_cell hb 2 _ rfl
      have e3 := blk_cell hb 3 _ rfl
      have Q := Box.mk (And.intro trivial (And.intro trivial trivial))
      clear p0 hk hb 
      by_cases h1 : s0.size ≤ 600
      · by_cases h2 : m0 ≤ 600
        · have hq : Box (sm s0.size m0 = true) := ⟨by unfold sm; simp [h1, h2]⟩
          go_wp2
          go_roundw
          case rel => exact ⟨1, by omega, rfl, ⟨fun _ => hq.out⟩, Ext.alloc hx _⟩
          case measure => simp [intOf]
        · have hq : Box (sm s0.size m0 = false) := ⟨by unfold sm; simp [h2]⟩
          go_wp2
          go_ret
          exact ⟨ret_bool (by simp [hq.out]), Ext.alloc hx _⟩
      · have hq : Box (sm s0.size m0 = false) := ⟨by unfold sm; simp [h1]⟩
        go_wp2
        go_ret
        exact ⟨ret_bool (by simp [hq.out]), Ext.alloc hx _⟩
    · have q0 := p0.out (by omega)
      have Q : Box ((sm s0.size m0) = true) := ⟨by simp [q0]⟩
      clear p0 hk hb q0
      go_wp2
      go_ret
      exact ⟨ret_bool (by rw [Q.out]), hx⟩

set_option maxHeartbeats 2000000 in
theorem few2_any (s0 : ByteArray) (a0 : Option Addr) (m0 c0 d0 b0 : Nat) (s1 : ByteArray) (a1 : Option Addr) (m1 c1 d1 b1 : Nat) (w : World) (B : Nat) (hs0 : s0.size ≤ 9223372036854775807) (hm0 : m0 ≤ 9223372036854775807) (hs1 : s1.size ≤ 9223372036854775807) (hm1 : m1 ≤ 9223372036854775807) (hB : w.heap[B]? = some (.cells #[.string s0, .slice a0 m0 c0, .int .u64 d0, .int .u64 b0, .string s1, .slice a1 m1 c1, .int .u64 d1, .int .u64 b1] 33 (0, 0))) :
    Calls Tryd.prog 14 #[.slice (some ⟨B, 0, none⟩) 2 2] w fun e w' => e = .returned (.bool (sm s0.size m0 && sm s1.size m1)) ∧ Ext w w' := by
  have HB := Box.mk hB
  have hlt0 := blk_lt hB
  clear hB
  go_enter Tryd.func14, Tryd.ntmps14
  go_wp2
  go_loopw [4, 7] (fun _ i wr => ∃ k : Nat, k ≤ 2 ∧ i = .int .i64 k ∧ Box (1 ≤ k → sm s0.size m0 = true) ∧ Box (2 ≤ k → sm s1.size m1 = true) ∧ Ext w wr) (fun _ i _ => 2 - (intOf i).toNat)
  case atStart => exact ⟨0, by omega, rfl, ⟨by omega⟩, ⟨by omega⟩, Below.refl _ _⟩
  case round =>
    obtain ⟨k, hk, rfl, p0, p1, hx⟩ := hrel
    have hlt := Nat.lt_of_lt_of_le hlt0 hx.size
    have hb := Ext.blk hx HB.out
    obtain rfl | rfl | rfl : k = 0 ∨ k = 1 ∨ k = 2 := by omega
    · have e0 := blk_cell hb 0 _ rfl
      have e1 := blk_cell hb 1 _ rfl
      have e2 := blk_cell hb 2 _ rfl
      have e3 := blk_cell hb 3 _ rfl
      have Q := Box.mk (And.intro trivial (And.intro trivial trivial))
      clear p0 p1 hk hb 
      by_cases h1 : s0.size ≤ 600
      · by_cases h2 : m0 ≤ 600
        · have hq : Box (sm s0.size m0 = true) := ⟨by unfold sm; simp [h1, h2]⟩
          go_wp2
          go_roundw
          case rel => exact ⟨1, by omega, rfl, ⟨fun _ => hq.out⟩, ⟨by omega⟩, Ext.alloc hx _⟩
          case measure => simp [intOf]
        · have hq : Box (sm s0.size m0 = false) := ⟨by unfold sm; simp [h2]⟩
          go_wp2
          go_ret
          exact ⟨ret_bool (by simp [hq.out]), Ext.alloc hx _⟩
      · have hq : Box (sm s0.size m0 = false) := ⟨by unfold sm; simp [h1]⟩
        go_wp2
        go_ret
        exact ⟨ret_bool (by simp [hq.out]), Ext.alloc hx _⟩
    · have e0 := blk_cell hb 4 _ rfl
      have e1 := blk_cell hb 5 _ rfl
      have e2 := blk_cell hb 6 _ rfl
      have e3 := blk_cell hb 7 _ rfl
      have q0 := p0.out (by omega)
      have Q := Box.mk (And.intro trivial (And.intro q0 trivial))
      clear p0 p1 hk hb q0
      by_cases h1 : s1.size ≤ 600
      · by_cases h2 : m1 ≤ 600
        · have hq : Box (sm s1.size m1 = true) := ⟨by unfold sm; simp [h1, h2]⟩
          go_wp2
          go_roundw
          case rel => exact ⟨2, by omega, rfl, ⟨fun _ => Q.out.2.1⟩, ⟨fun _ => hq.out⟩, Ext.alloc hx _⟩
          case measure => simp [intOf]
        · have hq : Box (sm s1.size m1 = false) := ⟨by unfold sm; simp [h2]⟩
          go_wp2
          go_ret
          exact ⟨ret_bool (by simp [hq.out]), Ext.alloc hx _⟩
      · have hq : Box (sm s1.size m1 = false) := ⟨by unfold sm; simp [h1]⟩
        go_wp2
        go_ret
        exact ⟨ret_bool (by simp [hq.out]), Ext.alloc hx _⟩
    · have q0 := p0.out (by omega)
      have q1 := p1.out (by omega)
      have Q : Box ((sm s0.size m0 && sm s1.size m1) = true) := ⟨by simp [q0, q1]⟩
      clear p0 p1 hk hb q0 q1
      go_wp2
      go_ret
      exact ⟨ret_bool (by rw [Q.out]), hx⟩

set_option maxHeartbeats 2000000 in
theorem few3_any (s0 : ByteArray) (a0 : Option Addr) (m0 c0 d0 b0 : Nat) (s1 : ByteArray) (a1 : Option Addr) (m1 c1 d1 b1 : Nat) (s2 : ByteArray) (a2 : Option Addr) (m2 c2 d2 b2 : Nat) (w : World) (B : Nat) (hs0 : s0.size ≤ 9223372036854775807) (hm0 : m0 ≤ 9223372036854775807) (hs1 : s1.size ≤ 9223372036854775807) (hm1 : m1 ≤ 9223372036854775807) (hs2 : s2.size ≤ 9223372036854775807) (hm2 : m2 ≤ 9223372036854775807) (hB : w.heap[B]? = some (.cells #[.string s0, .slice a0 m0 c0, .int .u64 d0, .int .u64 b0, .string s1, .slice a1 m1 c1, .int .u64 d1, .int .u64 b1, .string s2, .slice a2 m2 c2, .int .u64 d2, .int .u64 b2] 33 (0, 0))) :
    Calls Tryd.prog 14 #[.slice (some ⟨B, 0, none⟩) 3 3] w fun e w' => e = .returned (.bool (sm s0.size m0 && sm s1.size m1 && sm s2.size m2)) ∧ Ext w w' := by
  have HB := Box.mk hB
  have hlt0 := blk_lt hB
  clear hB
  go_enter Tryd.func14, Tryd.ntmps14
  go_wp2
  go_loopw [4, 7] (fun _ i wr => ∃ k : Nat, k ≤ 3 ∧ i = .int .i64 k ∧ Box (1 ≤ k → sm s0.size m0 = true) ∧ Box (2 ≤ k → sm s1.size m1 = true) ∧ Box (3 ≤ k → sm s2.size m2 = true) ∧ Ext w wr) (fun _ i _ => 3 - (intOf i).toNat)
  case atStart => exact ⟨0, by omega, rfl, ⟨by omega⟩, ⟨by omega⟩, ⟨by omega⟩, Below.refl _ _⟩
  case round =>
    obtain ⟨k, hk, rfl, p0, p1, p2, hx⟩ := hrel
    have hlt := Nat.lt_of_lt_of_le hlt0 hx.size
    have hb := Ext.blk hx HB.out
    obtain rfl | rfl | rfl | rfl : k = 0 ∨ k = 1 ∨ k = 2 ∨ k = 3 := by omega
    · have e0 := blk_cell hb 0 _ rfl
      have e1 := blk_cell hb 1 _ rfl
      have e2 := blk_cell hb 2 _ rfl
      have e3 := blk_cell hb 3 _ rfl
      have Q := Box.mk (And.intro trivial (And.intro trivial trivial))
      clear p0 p1 p2 hk hb 
      by_cases h1 : s0.size ≤ 600
      · by_cases h2 : m0 ≤ 600
        · have hq : Box (sm s0.size m0 = true) := ⟨by unfold sm; simp [h1, h2]⟩
          go_wp2
          go_roundw
          case rel => exact ⟨1, by omega, rfl, ⟨fun _ => hq.out⟩, ⟨by omega⟩, ⟨by omega⟩, Ext.alloc hx _⟩
          case measure => simp [intOf]
        · have hq : Box (sm s0.size m0 = false) := ⟨by unfold sm; simp [h2]⟩
          go_wp2
          go_ret
          exact ⟨ret_bool (by simp [hq.out]), Ext.alloc hx _⟩
      · have hq : Box (sm s0.size m0 = false) := ⟨by unfold sm; simp [h1]⟩
        go_wp2
        go_ret
        exact ⟨ret_bool (by simp [hq.out]), Ext.alloc hx _⟩
    · have e0 := blk_cell hb 4 _ rfl
      have e1 := blk_cell hb 5 _ rfl
      have e2 := blk_cell hb 6 _ rfl
      have e3 := blk_cell hb 7 _ rfl
      have q0 := p0.out (by omega)
      have Q := Box.mk (And.intro trivial (And.intro q0 trivial))
      clear p0 p1 p2 hk hb q0
      by_cases h1 : s1.size ≤ 600
      · by_cases h2 : m1 ≤ 600
        · have hq : Box (sm s1.size m1 = true) := ⟨by unfold sm; simp [h1, h2]⟩
          go_wp2
          go_roundw
          case rel => exact ⟨2, by omega, rfl, ⟨fun _ => Q.out.2.1⟩, ⟨fun _ => hq.out⟩, ⟨by omega⟩, Ext.alloc hx _⟩
          case measure => simp [intOf]
        · have hq : Box (sm s1.size m1 = false) := ⟨by unfold sm; simp [h2]⟩
          go_wp2
          go_ret
          exact ⟨ret_bool (by simp [hq.out]), Ext.alloc hx _⟩
      · have hq : Box (sm s1.size m1 = false) := ⟨by unfold sm; simp [h1]⟩
        go_wp2
        go_ret
        exact ⟨ret_bool (by simp [hq.out]), Ext.alloc hx _⟩
    · have e0 := blk_cell hb 8 _ rfl
      have e1 := blk_cell hb 9 _ rfl
      have e2 := blk_cell hb 10 _ rfl
      have e3 := blk_cell hb 11 _ rfl
      have q0 := p0.out (by omega)
      have q1 := p1.out (by omega)
      have Q := Box.mk (And.intro trivial (And.intro (And.intro q0 q1) trivial))
      clear p0 p1 p2 hk hb q0 q1
      by_cases h1 : s2.size ≤ 600
      · by_cases h2 : m2 ≤ 600
        · have hq : Box (sm s2.size m2 = true) := ⟨by unfold sm; simp [h1, h2]⟩
          go_wp2
          go_roundw
          case rel => exact ⟨3, by omega, rfl, ⟨fun _ => Q.out.2.1.1⟩, ⟨fun _ => Q.out.2.1.2⟩, ⟨fun _ => hq.out⟩, Ext.alloc hx _⟩
          case measure => simp [intOf]
        · have hq : Box (sm s2.size m2 = false) := ⟨by unfold sm; simp [h2]⟩
          go_wp2
          go_ret
          exact ⟨ret_bool (by simp [hq.out]), Ext.alloc hx _⟩
      · have hq : Box (sm s2.size m2 = false) := ⟨by unfold sm; simp [h1]⟩
        go_wp2
        go_ret
        exact ⟨ret_bool (by simp [hq.out]), Ext.alloc hx _⟩
    · have q0 := p0.out (by omega)
      have q1 := p1.out (by omega)
      have q2 := p2.out (by omega)
      have Q : Box ((sm s0.size m0 && sm s1.size m1 && sm s2.size m2) = true) := ⟨by simp [q0, q1, q2]⟩
      clear p0 p1 p2 hk hb q0 q1 q2
      go_wp2
      go_ret
      exact ⟨ret_bool (by rw [Q.out]), hx⟩

theorem two_by (w : World) : By (w.alloc (.cells #[.int .u8 255, .int .u8 0] 5)) (.slice (some ⟨w.heap.size, 0, none⟩) 2 2) [255, 0] :=
  ⟨_, _, rfl, by decide, trivial, trivial, fun _ => ⟨w.heap.size, 0, rfl, fun i hi => by
    obtain rfl | rfl : i = 0 ∨ i = 1 := by simp at hi; omega
    · exact blk_cell (newblk w _) 0 _ rfl
    · exact blk_cell (newblk w _) 1 _ rfl⟩⟩
theorem text_a : (⟨#[51, 32, 57, 32, 54, 49, 54, 50, 32, 102, 102, 48, 48]⟩ : ByteArray).data.toList = Ent.text ⟨[97, 98], [255, 0], 9, 3⟩ := by
  unfold Ent.text
  rw [dd_one' 3 (by decide), txtL_one 9 (by decide)]
  rfl
theorem text_b : (⟨#[49, 32, 110, 101, 118, 101, 114, 32, 54, 98, 32, 45]⟩ : ByteArray).data.toList = Ent.text ⟨[107], [], 18446744073709551615, 1⟩ := by
  unfold Ent.text
  rw [dd_one' 1 (by decide), show txtL 18446744073709551615 = neverL from if_pos rfl]
  rfl

set_option maxRecDepth 100000 in
set_option maxHeartbeats 4000000 in
theorem known_any (w : World) (hw : Env w) : Calls Tryd.prog 9 #[] w fun e w' => e = .returned (.bool true) ∧ Ext w w' := by
  have c1 : Box (∀ w, Calls Tryd.prog 13 #[.string ⟨#[97, 98]⟩, .int .i64 3, .int .i64 53, .int .i64 0] w fun e w' => e = .returned (.bool true) ∧ Ext w w') := ⟨fun w => costs_any ⟨#[97, 98]⟩ 3 53 0 w (by decide) (by decide) (by decide) (by decide)⟩
  have c2 : Box (∀ w, Calls Tryd.prog 13 #[.string ⟨#[]⟩, .int .i64 0, .int .i64 0, .int .i64 2] w fun e w' => e = .returned (.bool true) ∧ Ext w w') := ⟨fun w => costs_any ⟨#[]⟩ 0 0 2 w (by decide) (by decide) (by decide) (by decide)⟩
  have c3 : Box (∀ w, Calls Tryd.prog 13 #[.string ⟨#[107]⟩, .int .i64 65537, .int .i64 0, .int .i64 5] w fun e w' => e = .returned (.bool true) ∧ Ext w w') := ⟨fun w => costs_any ⟨#[107]⟩ 65537 0 5 w (by decide) (by decide) (by decide) (by decide)⟩
  have t1 : Box (∀ w', Ext w w' → Calls Tryd.prog 30 #[.string ⟨#[97, 98]⟩, .slice (some ⟨w'.heap.size, 0, none⟩) 2 2, .int .u64 9, .int .u64 3, .string ⟨#[51, 32, 57, 32, 54, 49, 54, 50, 32, 102, 102, 48, 48]⟩] (w'.alloc (.cells #[.int .u8 255, .int .u8 0] 5)) fun e w'' => e = .returned (.bool true) ∧ Ext w' w'') := ⟨fun w' h => (textf_any ⟨#[97, 98]⟩ _ [255, 0] 9 3 _ _ (by decide) (by decide) (by decide) (by decide) (by decide) (two_by w') ((hw.ext h).ext (Ext.alloc (Below.refl _ _) _)) text_a).mono fun e w'' ⟨h1, h2⟩ => ⟨h1, Ext.trans' (Ext.alloc (Below.refl _ _) _) h2⟩⟩
  have t2 : Box (∀ w', Ext w w' → Calls Tryd.prog 30 #[.string ⟨#[107]⟩, .slice none 0 0, .int .u64 18446744073709551615, .int .u64 1, .string ⟨#[49, 32, 110, 101, 118, 101, 114, 32, 54, 98, 32, 45]⟩] w' fun e w'' => e = .returned (.bool true) ∧ Ext w' w'') := ⟨fun w' h => textf_any ⟨#[107]⟩ _ [] 18446744073709551615 1 _ _ (by decide) (by decide) (by decide) (by decide) (by decide) (By.nil w') (hw.ext h) text_b⟩
  have n1 : Box (∀ w, Calls Tryd.prog 22 #[.string ⟨#[107]⟩, .slice none 0 0, .int .u64 0, .int .u64 0] w fun e w' => e = .returned (.tuple #[zeroE, .int .i64 2]) ∧ Ext w w') := ⟨fun w => new_bad ⟨#[107]⟩ none 0 0 0 0 w (by decide) (by decide) (by decide) (by decide)⟩
  have z1 : Box (∀ w', Ext w w' → Calls Tryd.prog 19 #[.string ⟨#[48, 51, 32, 57, 32, 54, 49, 54, 50, 32, 102, 102, 48, 48]⟩] w' fun e w'' => e = .returned (.bool true) ∧ Ext w' w'') := ⟨fun w' h => wrongf_any ⟨#[48, 51, 32, 57, 32, 54, 49, 54, 50, 32, 102, 102, 48, 48]⟩ w' (by decide) (hw.ext h) wrong1⟩
  have z2 : Box (∀ w', Ext w w' → Calls Tryd.prog 19 #[.string ⟨#[51, 32, 57, 32, 54, 49, 54, 50, 32, 70, 70, 48, 48]⟩] w' fun e w'' => e = .returned (.bool true) ∧ Ext w' w'') := ⟨fun w' h => wrongf_any ⟨#[51, 32, 57, 32, 54, 49, 54, 50, 32, 70, 70, 48, 48]⟩ w' (by decide) (hw.ext h) wrong2⟩
  have z3 : Box (∀ w', Ext w w' → Calls Tryd.prog 19 #[.string ⟨#[51, 32, 57, 32, 45, 32, 102, 102, 48, 48]⟩] w' fun e w'' => e = .returned (.bool true) ∧ Ext w' w'') := ⟨fun w' h => wrongf_any ⟨#[51, 32, 57, 32, 45, 32, 102, 102, 48, 48]⟩ w' (by decide) (hw.ext h) wrong3⟩
  have z4 : Box (∀ w', Ext w w' → Calls Tryd.prog 19 #[.string ⟨#[51, 32, 57, 32, 54, 49, 54, 50]⟩] w' fun e w'' => e = .returned (.bool true) ∧ Ext w' w'') := ⟨fun w' h => wrongf_any ⟨#[51, 32, 57, 32, 54, 49, 54, 50]⟩ w' (by decide) (hw.ext h) wrong4⟩
  have b1 : Box (∀ w, Calls Tryd.prog 26 #[.agg #[.string ⟨#[]⟩, .slice none 0 0, .int .u64 5, .int .u64 2], .agg #[.string ⟨#[]⟩, .slice none 0 0, .int .u64 5, .int .u64 3]] w fun e w' => e = .returned (.bool true) ∧ Ext w w') := ⟨fun w => before_any ⟨#[]⟩ ⟨#[]⟩ none none 0 0 0 0 5 5 2 3 w⟩
  have b2 : Box (∀ w, Calls Tryd.prog 26 #[.agg #[.string ⟨#[]⟩, .slice none 0 0, .int .u64 5, .int .u64 3], .agg #[.string ⟨#[]⟩, .slice none 0 0, .int .u64 5, .int .u64 2]] w fun e w' => e = .returned (.bool false) ∧ Ext w w') := ⟨fun w => before_any ⟨#[]⟩ ⟨#[]⟩ none none 0 0 0 0 5 5 3 2 w⟩
  have b3 : Box (∀ w, Calls Tryd.prog 26 #[.agg #[.string ⟨#[]⟩, .slice none 0 0, .int .u64 4, .int .u64 9], .agg #[.string ⟨#[]⟩, .slice none 0 0, .int .u64 5, .int .u64 1]] w fun e w' => e = .returned (.bool true) ∧ Ext w w') := ⟨fun w => before_any ⟨#[]⟩ ⟨#[]⟩ none none 0 0 0 0 4 5 9 1 w⟩
  have hx : Ext w w := Below.refl _ _
  clear hw
  go_enter Tryd.func9, Tryd.ntmps9
  go_wp2_with (first
    | (go_at_call 13; (with_reducible refine (c1.out _).mono ?_); rintro e w1 ⟨rfl, hb⟩; have hx := Ext.trans' hx hb)
    | (go_at_call 13; (with_reducible refine (c2.out _).mono ?_); rintro e w1 ⟨rfl, hb⟩; have hx := Ext.trans' hx hb)
    | (go_at_call 13; (with_reducible refine (c3.out _).mono ?_); rintro e w1 ⟨rfl, hb⟩; have hx := Ext.trans' hx hb)
    | (go_at_call 30; (with_reducible refine (t1.out _ hx).mono ?_); rintro e w1 ⟨rfl, hb⟩; have hx := Ext.trans' hx hb)
    | (go_at_call 30; (with_reducible refine (t2.out _ hx).mono ?_); rintro e w1 ⟨rfl, hb⟩; have hx := Ext.trans' hx hb)
    | (go_at_call 22; (with_reducible refine (n1.out _).mono ?_); rintro e w1 ⟨rfl, hb⟩; have hx := Ext.alloc (Ext.trans' hx hb) (.cells zeroC 33))
    | (go_at_call 19; (with_reducible refine (z1.out _ hx).mono ?_); rintro e w1 ⟨rfl, hb⟩; have hx := Ext.trans' hx hb)
    | (go_at_call 19; (with_reducible refine (z2.out _ hx).mono ?_); rintro e w1 ⟨rfl, hb⟩; have hx := Ext.trans' hx hb)
    | (go_at_call 19; (with_reducible refine (z3.out _ hx).mono ?_); rintro e w1 ⟨rfl, hb⟩; have hx := Ext.trans' hx hb)
    | (go_at_call 19; (with_reducible refine (z4.out _ hx).mono ?_); rintro e w1 ⟨rfl, hb⟩; have hx := Ext.trans' hx hb)
    | (go_at_call 26; (with_reducible refine (b1.out _).mono ?_); rintro e w1 ⟨rfl, hb⟩; have hx := Ext.trans' hx hb)
    | (go_at_call 26; (with_reducible refine (b2.out _).mono ?_); rintro e w1 ⟨rfl, hb⟩; have hx := Ext.trans' hx hb)
    | (go_at_call 26; (with_reducible refine (b3.out _).mono ?_); rintro e w1 ⟨rfl, hb⟩; have hx := Ext.trans' hx hb))
  go_ret
  exact ⟨rfl, hx⟩
end Go.Proofs.YtboecabipkkcgaaDoor
