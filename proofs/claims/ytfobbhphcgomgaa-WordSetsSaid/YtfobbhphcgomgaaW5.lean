import Derived.Test.YtfobbhphcgomgaaW4
import Derived.RangeFuncBox
import Derived.RangeFuncNested
import Derived.RangeFuncBound
import Derived.RangeFuncCalls
import Derived.RangeFuncLeaves
import Derived.RangeFuncWrites
import Derived.Shelf.Abstract
import Derived.OwnWalkIn
import Derived.TacticsInMore
import Derived.LoopNIn
import Derived.LoopIn
import Derived.Maps.AppendAt
/- The iterator over the lanes of a set, and the loop that collects them. -/
namespace Go.Proofs.Ytfobbhphcgomgaa
open Go.RowKit Go.Shelf

attribute [local go_sem] Oper.semAt_some

theorem next_bit : ∀ r, r < 256 → r ≠ 0 → bitsTo r 8 = Lib.trailingZeros8 r :: bitsTo (r &&& (r - 1)) 8 := by decide +kernel
theorem next_lt (r : Nat) (h : r ≠ 0) : r &&& (r - 1) < r := Nat.lt_of_le_of_lt Nat.and_le_right (by omega)
theorem bits_zero : bitsTo 0 8 = [] := by decide
theorem u8_and_pred (r : Nat) (h : r < 256) (h0 : r ≠ 0) : bits BinOp.and IntKind.u8 (r : Int) ((r : Int) - 1) = ((r &&& (r - 1) : Nat) : Int) := by
  rw [show ((r : Int) - 1) = ((r - 1 : Nat) : Int) from by omega]
  exact u8_and_nat r (r - 1) h (by omega)

set_option maxRecDepth 100000 in
set_option maxHeartbeats 1000000 in
theorem all1_in (n : Nat) (hn : 1 ≤ n) (l Bn : Nat) (S : Nat) (hS : S < 256) (J Jx : List Nat → World → Prop)
    (hY : ∀ pre x W, J pre W → pre.length < (bitsTo S 8).length → YieldAt Fence.wide (n - 1) Try.prog l #[.int .i64 (x : Nat)] W fun e W' =>
      (e = .returned (.bool true) ∧ J (pre ++ [x]) W' ∧ KeepsWalks W W') ∨ (e = .returned (.bool false) ∧ Jx (pre ++ [x]) W'))
    (W : World) (hBn : W.cell? ⟨Bn, 0, none⟩ = some (.int .u8 S)) (h0 : J [] W) :
    CallsIn Fence.wide n Try.prog 30 #[.func (.yield l) #[] #[], .pointer (some ⟨Bn, 0, none⟩)] W fun e W' => (∃ v, e = .returned v) ∧
      ((∃ ys, ys = bitsTo S 8 ∧ J ys W') ∨ (∃ pre, pre <+: bitsTo S 8 ∧ Jx pre W')) := by
  refine callsIn_of_wp Try.func30 rfl trivial ?_ rfl
  simp only [Try.ntmps30, List.size_toArray, List.length_cons, List.length_nil, Nat.reduceAdd, Nat.reduceSub, Array.replicate_succ, Array.replicate_zero, List.push_toArray, List.append_toArray, List.nil_append, List.cons_append]
  gi_wp2
  gi_loopw [3] (fun p wr => ∃ (pre : List Nat) (r : Nat), p = .int .u8 r ∧ r < 256 ∧ bitsTo S 8 = pre ++ bitsTo r 8 ∧ J pre wr)
    (fun p wr => (intOf p).toNat)
  case atStart => exact ⟨[], S, rfl, hS, rfl, h0⟩
  case round =>
    obtain ⟨pre, r, rfl, hr, hx, hJs⟩ := hrel
    have Hx : Box _ := ⟨hx⟩
    clear hx
    by_cases hr0 : r = 0
    · subst hr0
      have hz : ((0 : Int) != 0) = false := rfl
      gi_wp2
      go_end0
      exact ⟨⟨_, rfl⟩, .inl ⟨pre, by rw [Hx.out, bits_zero, List.append_nil], hJs⟩⟩
    · have hz : ((r : Int) != 0) = true := by rw [bne_iff_ne]; omega
      have hnx : Box _ := ⟨next_bit r hr hr0⟩
      have hlt := next_lt r hr0
      have hand : Box _ := ⟨u8_and_pred r hr hr0⟩
      have hy0 := hY pre (Lib.trailingZeros8 r) wr hJs (by rw [Hx.out, hnx.out]; simp)
      have hf : Box (∀ w, Calls Try.prog 18 #[.int .u8 r] w fun e w' => e = .returned (.int .i64 (Lib.trailingZeros8 r)) ∧ w = w') := ⟨fun w => by simpa using first_any r w (by omega) (by omega)⟩
      generalize Lib.trailingZeros8 r = x at *
      generalize r &&& (r - 1) = r1 at *
      obtain ⟨fn, tmps, assign, body, hy, hR⟩ := hy0
      have HR : Box _ := ⟨hR⟩
      clear hR
      gi_wp2_with (refine ⟨trivial, ?_⟩; gi_at_call 18; refine (callsIn_wide.2 (hf.out _)).mono ?_; rintro e w' ⟨rfl, rfl⟩)
      refine HR.out.mono ?_
      rintro e W3 (⟨rfl, hJ3, hk3⟩ | ⟨rfl, hJx3⟩)
      · gi_wp2
        go_roundw
        case rel => exact ⟨pre ++ [x], r1, by rw [hand.out], by omega, by rw [Hx.out, hnx.out]; simp, hJ3⟩
        case measure => simp [intOf, hand.out]; omega
      · gi_wp2
        refine bodyPost_ret (results_none rfl _ _ _) rfl ?_
        exact ⟨⟨_, rfl⟩, .inr ⟨pre ++ [x], ⟨bitsTo r1 8, by rw [Hx.out, hnx.out]; simp⟩, hJx3⟩⟩

set_option maxHeartbeats 1000000 in
theorem all_any (S : Int) (w : World) : Calls Try.prog 17 #[.int .u8 S] w fun e w' => e = .returned (.func (.func 30) #[] #[.pointer (some ⟨w.heap.size, 0, none⟩)]) ∧ w' = w.alloc (.cells #[.int .u8 S] 5) := by
  go_enter Try.func17, Try.ntmps17
  go_wp2
  go_ret
  exact ⟨rfl, rfl⟩

theorem all_stops (n : Nat) (hn : 1 ≤ n) (Bn S : Nat) (hS : S < 256) (w : World) (hBn : Bn < w.heap.size) (hc : w.cell? ⟨Bn, 0, none⟩ = some (.int .u8 S)) :
    SeqStopsK Fence.wide n Try.prog 30 #[.pointer (some ⟨Bn, 0, none⟩)] (fun x : Nat => #[Value.int .i64 x]) KeepsWalks (fun ys => ys = bitsTo S 8) (fun pre => pre <+: bitsTo S 8) (bitsTo S 8).length w := fun l J Jx W hW _ _ hY h0 =>
  all1_in n hn l Bn S hS J Jx hY W ((hW.cell (p := ⟨Bn, 0, none⟩) hBn).trans hc) h0
end Go.Proofs.Ytfobbhphcgomgaa
