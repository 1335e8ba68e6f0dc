import Derived.Test.YtjeekfeimogehaaDoorW2
/- Contracts: reference's With, Lanes, Set, Match; package word's First, Count. -/
namespace Go.Proofs.YtjeekfeimogehaaDoor
open Go.RowKit

set_option maxHeartbeats 1000000 in
theorem refWith_any (W l b : Int) (w : World) (h0 : 0 ≤ W) (h1 : W < 18446744073709551616) (h2 : 0 ≤ l) (h3 : l ≤ 7) (h4 : 0 ≤ b) (h5 : b ≤ 255) :
    Calls Tryd.prog 38 #[.int .u64 W, .int .i64 l, .int .u8 b] w fun e w' => e = .returned (.tuple #[.int .u64 (WM.withN W.toNat l.toNat b.toNat), .int .i64 0]) ∧ Below w.heap.size w w' := by
  obtain ⟨n, rfl⟩ := Int.eq_ofNat_of_zero_le h0
  obtain ⟨c, rfl⟩ := Int.eq_ofNat_of_zero_le h4
  obtain ⟨i, rfl⟩ := Int.eq_ofNat_of_zero_le h2
  simp only [Int.toNat_natCast]
  have ho : ∀ w, Calls Tryd.prog 34 #[A8 (fun j => if j = i then c else WM.lane n j)] w fun e w' => e = .returned (.int .u64 (WM.withN n i c)) ∧ Below w.heap.size w w' :=
    fun w => of_any _ w (fun j => by show (if j = i then c else WM.lane n j) < 256; split; omega; exact WM.lane_lt n j)
  unfold A8 at ho
  rcases lt8_nat i (by omega) with rfl | rfl | rfl | rfl | rfl | rfl | rfl | rfl
  all_goals
    clear h2 h3
    simp only [Nat.reduceEqDiff, if_true, if_false] at ho
    have Ho := Go.Lib.hid ho
    clear ho
    go_enter Tryd.func38, Tryd.ntmps38
    go_wp2_with (first | (go_at_call 28; refine (refBytes_any _ _ (by omega) (by omega)).mono ?_; rintro e w1 ⟨rfl, hb⟩; rw [Int.toNat_natCast]; unfold A8) | (go_at_call 34; refine (Ho.out _).mono ?_; rintro e w2 ⟨rfl, hb2⟩))
    go_ret2
    exact ⟨rfl, ((by assumption : Below w.heap.size w _).alloc (by have := (by assumption : Below w.heap.size w _).size; omega) _).trans ((by assumption : Below (World.heap _).size _ _).mono (by have := (by assumption : Below w.heap.size w _).size; simp; omega))⟩

theorem info_int : (Tryd.prog.info? 3).map (fun i => (i.zero, i.size, i.bytes)) = some (some (.int .i64 0), 1, 8) := by kernel_rfl

/-- Numbers as cells. -/
def ints (xs : List Nat) : List Value := xs.map fun (x : Nat) => Value.int .i64 x
/-- The bits of a set below k. -/
def bitsTo (S k : Nat) : List Nat := (List.range k).filter S.testBit
theorem bitsTo_succ (S k : Nat) : bitsTo S (k + 1) = bitsTo S k ++ (if S.testBit k then [k] else []) := by
  unfold bitsTo; rw [List.range_succ, List.filter_append]; simp only [List.filter_cons, List.filter_nil]
theorem bitsTo_len (S k : Nat) : (bitsTo S k).length ≤ k := by
  unfold bitsTo; exact Nat.le_trans (List.length_filter_le _ _) (by simp)
theorem ints_append (a b : List Nat) : ints (a ++ b) = ints a ++ ints b := by simp [ints]
theorem ints_len (a : List Nat) : (ints a).length = a.length := by simp [ints]

theorem test_iff (S k : Nat) : S.testBit k = (S / 2 ^ k % 2 == 1) := by
  rw [Nat.testBit_eq_decide_div_mod_eq]; rw [Bool.eq_iff_iff]; simp


def setN (xs : List Nat) : Nat := xs.foldl (fun s i => s ||| 2 ^ i) 0
theorem setN_take (xs : List Nat) (k x : Nat) (hx : xs[k]? = some x) : setN (xs.take (k + 1)) = setN (xs.take k) ||| 2 ^ x := by
  unfold setN; rw [List.take_add_one, hx]; simp
theorem setN_lt (xs : List Nat) (h : ∀ x, x ∈ xs → x < 8) : setN xs < 256 := by
  unfold setN
  suffices ∀ s, s < 256 → xs.foldl (fun s i => s ||| 2 ^ i) s < 256 from this 0 (by decide)
  induction xs with
  | nil => intro s hs; exact hs
  | cons y ys ih =>
    intro s hs
    refine ih (fun x hx => h x (List.mem_cons_of_mem _ hx)) _ ?_
    exact Nat.or_lt_two_pow (n := 8) hs (Nat.pow_lt_pow_right (by decide) (h y (List.mem_cons_self)))
theorem u8_or_pow (s x : Nat) (hs : s < 256) (hx : x < 8) : bits BinOp.or IntKind.u8 (s : Int) ((2 ^ x : Nat) : Int) = ((s ||| 2 ^ x : Nat) : Int) :=
  u8_or_nat s (2 ^ x) hs (Nat.pow_lt_pow_right (m := x) (n := 8) (by decide) hx)

set_option maxHeartbeats 1000000 in
theorem refSet_any (v : Value) (n : Nat) (xs : List Nat) (w : World) (hv : Sl w v n (ints xs)) (hn : n = xs.length) (h8 : ∀ x, x ∈ xs → x < 8) :
    Calls Tryd.prog 44 #[v] w fun e w' => e = .returned (.int .u8 (setN xs)) ∧ w = w' := by
  obtain ⟨a, c, rfl, hm, hnc, hc⟩ := hv
  have Hc := Go.Lib.hid hc
  have Hn := Go.Lib.hid hn
  clear hc hn
  go_enter Tryd.func44, Tryd.ntmps44
  go_wp2
  go_loop [3, 4] (fun s i => ∃ k : Nat, k ≤ n ∧ i = .int .i64 k ∧ s = .int .u8 (setN (xs.take k))) (fun _ i => n - (intOf i).toNat)
  case atStart => exact ⟨0, by omega, rfl, rfl⟩
  case round =>
    obtain ⟨k, hk, rfl, rfl⟩ := hrel
    have hlt := setN_lt (xs.take k) (fun x hx => h8 x (List.mem_of_mem_take hx))
    by_cases hkn : k < n
    · have hkx : k < xs.length := by have := Hn.out; omega
      obtain ⟨b, o, rfl, hcell⟩ := Hc.out k (.int .i64 (xs[k])) (by simp [ints, hkx])
      have hx8 : xs[k] < 8 := h8 _ (List.getElem_mem _)
      have hs := Go.Lib.hid (setN_take xs k xs[k] (by simp [hkx]))
      generalize xs[k] = x at *
      generalize setN (xs.take k) = s at *
      have ho := Go.Lib.hid (u8_or_pow s x hlt hx8)
      rcases lt8_nat x hx8 with rfl | rfl | rfl | rfl | rfl | rfl | rfl | rfl
      all_goals
        go_wp2
        go_round
        case rel => exact ⟨k + 1, by omega, by go_num, by rw [hs.out, ← ho.out]; rfl⟩
        case measure => simp [intOf]; omega
    · obtain rfl : k = n := by omega
      go_wp2
      go_ret
      exact ⟨ret_int (by rw [List.take_of_length_le (by have := Hn.out; omega)]), rfl⟩
end Go.Proofs.YtjeekfeimogehaaDoor
