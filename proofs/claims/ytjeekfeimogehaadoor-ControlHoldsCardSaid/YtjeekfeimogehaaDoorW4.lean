import Derived.Test.YtjeekfeimogehaaDoorW3
/- Contracts: the reference's Match; package word's First and Count; Same. -/
namespace Go.Proofs.YtjeekfeimogehaaDoor
open Go.RowKit

theorem setN_filter : ∀ b0 b1 b2 b3 b4 b5 b6 b7 : Bool, setN ((bif b0 then [0] else []) ++ ((bif b1 then [1] else []) ++ ((bif b2 then [2] else []) ++ ((bif b3 then [3] else []) ++ ((bif b4 then [4] else []) ++ ((bif b5 then [5] else []) ++ ((bif b6 then [6] else []) ++ (bif b7 then [7] else [])))))))) = b0.toNat + 2 * (b1.toNat + 2 * (b2.toNat + 2 * (b3.toNat + 2 * (b4.toNat + 2 * (b5.toNat + 2 * (b6.toNat + 2 * b7.toNat)))))) := by decide +kernel
theorem filter_step (b : Bool) (i : Nat) (r : List Nat) : (if b = true then i :: r else r) = (bif b then [i] else []) ++ r := by cases b <;> rfl
theorem setN_range (c : Nat → Bool) : setN ((List.range 8).filter c) = WM.set8 c := by
  rw [show List.range 8 = [0, 1, 2, 3, 4, 5, 6, 7] from rfl]
  simp only [List.filter_cons, List.filter_nil, filter_step, List.append_nil]
  exact setN_filter _ _ _ _ _ _ _ _

/-- Is lane i of W between a and b? -/
def inB (W a b : Nat) (i : Nat) : Bool := decide (a ≤ WM.lane W i) && decide (WM.lane W i ≤ b)
def lanesTo (W a b k : Nat) : List Nat := (List.range k).filter (inB W a b)
theorem lanesTo_succ (W a b k : Nat) : lanesTo W a b (k + 1) = lanesTo W a b k ++ (if inB W a b k then [k] else []) := by
  unfold lanesTo; rw [List.range_succ, List.filter_append]; simp only [List.filter_cons, List.filter_nil]
theorem lanesTo_len (W a b k : Nat) : (lanesTo W a b k).length ≤ k := by
  unfold lanesTo; exact Nat.le_trans (List.length_filter_le _ _) (by simp)

set_option maxHeartbeats 1000000 in
theorem refMatch_any (W a b : Int) (w : World) (h0 : 0 ≤ W) (h1 : W < 18446744073709551616) (ha0 : 0 ≤ a) (ha1 : a ≤ 255) (hb0 : 0 ≤ b) (hb1 : b ≤ 255) :
    Calls Tryd.prog 31 #[.int .u64 W, .int .u8 a, .int .u8 b] w fun e w' => e = .returned (.int .u8 (WM.rangeN W.toNat a.toNat b.toNat)) ∧ Below w.heap.size w w' := by
  obtain ⟨W, rfl⟩ := Int.eq_ofNat_of_zero_le h0
  obtain ⟨a, rfl⟩ := Int.eq_ofNat_of_zero_le ha0
  obtain ⟨b, rfl⟩ := Int.eq_ofNat_of_zero_le hb0
  simp only [Int.toNat_natCast]
  obtain ⟨i0, hi, hz0, hz1, hz2⟩ := info_parts info_int
  have H1 : Box _ := ⟨h1⟩
  clear h1
  go_enter Tryd.func31, Tryd.ntmps31
  go_wp2
  go_loopw [7, 8] (fun v i wr => ∃ k : Nat, k ≤ 8 ∧ i = .int .i64 k ∧ wr.ownsRow w.heap.size 3 1 v (lanesTo W a b k).length (ints (lanesTo W a b k)) ∧ Below w.heap.size w wr) (fun _ i _ => 8 - (intOf i).toNat)
  case atStart => exact ⟨0, by omega, rfl, World.ownsRow_nil _ _ _ _, Below.refl _ _⟩
  case round =>
    obtain ⟨k, hk, rfl, hown, hbel⟩ := hrel
    have hl := lanesTo_len W a b k
    have hsz := hbel.size
    by_cases hlt : k < 8
    · have hs := Go.Lib.hid (lanesTo_succ W a b k)
      have hlane := Go.Lib.hid (fun w => refLane_any W k w h0 H1.out (by omega) (by omega))
      have hL := WM.lane_lt W k
      by_cases hb : a ≤ WM.lane W k ∧ WM.lane W k ≤ b
      · have Ht : Hid (inB W a b k = true) := by unfold Hid inB; simp [hb.1, hb.2]
        obtain ⟨hb1, hb2⟩ := hb
        simp only [Int.toNat_natCast] at hlane
        generalize WM.lane W k = L at *
        go_wp2_with (first | (go_at_call 27; refine (hlane.out _).mono ?_; rintro e w' ⟨rfl, rfl⟩) | (at_builtin; refine wpList_push rfl _ _ 54 rfl w.heap.size 3 i0 (.int .i64 0) 1 8 Tryd.underlying54 hi hz0 hz1 hz2 rfl (by decide) _ _ _ rfl hown [.int .i64 k] rfl rfl (by simp [Value.oneCell']) (by omega) (by omega) hsz ?_; intro v1 w1 hown1 hg1 hbel1 hsz1))
        go_roundw
        case rel => exact ⟨k + 1, by omega, by go_num, by rw [hs.out, Ht.out, if_pos rfl, ints_append, List.length_append]; exact hown1, hbel.trans hbel1⟩
        case measure => simp [intOf]; omega
      · have Ht : Hid (inB W a b k = false) := by unfold Hid inB; simp; omega
        simp only [Int.toNat_natCast] at hlane
        generalize WM.lane W k = L at *
        by_cases hb1 : a ≤ L
        all_goals
          go_wp2_with (first | (go_at_call 27; refine (hlane.out _).mono ?_; rintro e w' ⟨rfl, rfl⟩))
          go_roundw
          case rel => exact ⟨k + 1, by omega, by go_num, by rw [hs.out, Ht.out]; simpa using hown, hbel⟩
          case measure => simp [intOf]; omega
    · obtain rfl : k = 8 := by omega
      have hx8 : ∀ x, x ∈ lanesTo W a b 8 → x < 8 := fun x hx => by simpa using (List.mem_filter.1 hx).1
      have hse := Go.Lib.hid (refSet_any u7 _ (lanesTo W a b 8) wr (Sl.owns hown (by omega)) rfl hx8)
      have hq := Go.Lib.hid (setN_range (inB W a b))
      go_wp2_with (first | (go_at_call 44; refine hse.out.mono ?_; rintro e w' ⟨rfl, rfl⟩))
      go_ret
      exact ⟨ret_int (congrArg _ hq.out), hbel⟩

end Go.Proofs.YtjeekfeimogehaaDoor
