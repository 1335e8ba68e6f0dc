import Derived.Test.YtbnmnkmjokcmfaaDoorS2
import Derived.Laws.StructEq
import Derived.ChangeKeysEq
/- season: equal numbers compared; Turn, Inverse. -/
namespace Go.Proofs.YtbnmnkmjokcmfaaDoor
open Go.RowKit

theorem g_struct : Tryd.prog.underlying 23 = some (.struct (Tryd.prog.fieldsOf 23)) ∧ Tryd.prog.stoodInHeld 23 = false ∧ Tryd.prog.eqGuardType Tryd.prog.depth 23 = false := ⟨by kernel_rfl, by kernel_rfl, by kernel_rfl⟩
theorem eqG' (d : Nat) (x y : Int) (w : World) : (Op.equalIn (d + 2) 23 (.agg #[.int .i64 x, .int .i64 y]) (.agg #[.int .i64 x, .int .i64 y])).run Tryd.prog w = .ok true w := by
  rw [run_equalIn_agg w (d + 1) 23 _ _ g_struct.1 g_struct.2.1]
  simp only [Program.fieldsOf, Tryd.underlying23]
  go_simp
theorem eqG (x y : Int) (w : World) : (Op.equalIn 10000 23 (.agg #[.int .i64 x, .int .i64 y]) (.agg #[.int .i64 x, .int .i64 y])).run Tryd.prog w = .ok true w := eqG' 9998 x y w
theorem g_size : (Tryd.prog.info? 23).map (·.size) = some 2 := by kernel_rfl
theorem g4_type : Tryd.prog.underlying 29 = some (.array 4 23) ∧ Tryd.prog.eqGuardType Tryd.prog.depth 29 = false := ⟨by kernel_rfl, by kernel_rfl⟩
theorem eqA (a b : Nat → Int) (w : World) : (Op.equalIn 10000 29 (.agg #[.int .i64 (a 0), .int .i64 (b 0), .int .i64 (a 1), .int .i64 (b 1), .int .i64 (a 2), .int .i64 (b 2), .int .i64 (a 3), .int .i64 (b 3)]) (.agg #[.int .i64 (a 0), .int .i64 (b 0), .int .i64 (a 1), .int .i64 (b 1), .int .i64 (a 2), .int .i64 (b 2), .int .i64 (a 3), .int .i64 (b 3)])).run Tryd.prog w = .ok true w := by
  obtain ⟨i, hi, hs⟩ := Option.map_eq_some_iff.1 g_size
  rw [show (10000 : Nat) = 9999 + 1 from rfl, run_equalIn_array w 9999 _ _ g4_type.1 hi, show List.range 4 = [0, 1, 2, 3] from rfl, show Tryd.prog.cellsOf 23 = 2 by kernel_rfl]
  have hp : ∀ (xs : Array Value) (o : Nat) (w : World), (part 23 xs o).run Tryd.prog w = .ok (.agg (xs.extract o (o + 2))) w := fun xs o w => by
    simp [part, isAgg, Sem.run_bind, run_underlying Tryd.underlying23, sizeOf, typeInfo, hi, hs]
  have e : ∀ (x y : Int) (w : World), (Op.equalIn 9999 23 (.agg #[.int .i64 x, .int .i64 y]) (.agg #[.int .i64 x, .int .i64 y])).run Tryd.prog w = .ok true w := fun x y w => eqG' 9997 x y w
  simp [Op.eqItems, Sem.run_bind, hp, e]
theorem i4_type : Tryd.prog.underlying 50 = some (.array 4 3) ∧ Tryd.prog.eqGuardType Tryd.prog.depth 50 = false := ⟨by kernel_rfl, by kernel_rfl⟩
theorem i_some : (Tryd.prog.info? 3).isSome = true := by kernel_rfl
theorem eqI (a b c d : Int) (w : World) : (Op.equalIn 10000 50 (.agg #[.int .i64 a, .int .i64 b, .int .i64 c, .int .i64 d]) (.agg #[.int .i64 a, .int .i64 b, .int .i64 c, .int .i64 d])).run Tryd.prog w = .ok true w := by
  obtain ⟨i, hi⟩ := Option.isSome_iff_exists.1 i_some
  rw [show (10000 : Nat) = 9999 + 1 from rfl, run_equalIn_array w 9999 _ _ i4_type.1 hi, show List.range 4 = [0, 1, 2, 3] from rfl, show Tryd.prog.cellsOf 3 = 1 by kernel_rfl]
  have hp : ∀ (xs : Array Value) (o : Nat) (v : Value) (w : World), xs[o]? = some v → (part 3 xs o).run Tryd.prog w = .ok v w := fun xs o v w h => by
    simp [part, isAgg, Sem.run_bind, run_underlying Tryd.underlying3, h]
  have e : ∀ (x : Int) (w : World), (Op.equalIn 9999 3 (.int .i64 x) (.int .i64 x)).run Tryd.prog w = .ok true w := fun x w => by
    rw [show (9999 : Nat) = 9998 + 1 from rfl, run_equalIn_int w 9998 3 .i64 .i64 x x Tryd.underlying3]
    simp
  have p0 := fun w => hp #[.int .i64 a, .int .i64 b, .int .i64 c, .int .i64 d] 0 (.int .i64 a) w rfl
  have p1 := fun w => hp #[.int .i64 a, .int .i64 b, .int .i64 c, .int .i64 d] 1 (.int .i64 b) w rfl
  have p2 := fun w => hp #[.int .i64 a, .int .i64 b, .int .i64 c, .int .i64 d] 2 (.int .i64 c) w rfl
  have p3 := fun w => hp #[.int .i64 a, .int .i64 b, .int .i64 c, .int .i64 d] 3 (.int .i64 d) w rfl
  simp [Op.eqItems, Sem.run_bind, p0, p1, p2, p3, e]
/-- what Turn makes of a list -/
def tn (a : Nat → Int) (n : Int) (m : Nat) : Int := a (((m : Int) - n) % 4).toNat
/-- .. after k rounds -/
def tnk (a : Nat → Int) (n : Int) (k m : Nat) : Int := if (((m : Int) - n) % 4).toNat < k then a (((m : Int) - n) % 4).toNat else 0
theorem tnk_four (a : Nat → Int) (n : Int) (m : Nat) : tnk a n 4 m = tn a n m := by
  unfold tnk tn
  rw [if_pos (by omega)]
theorem tnk_step (a : Nat → Int) (n : Int) (k m : Nat) (hm : m < 4) (hk : k < 4) : tnk a n (k + 1) m = if m = (((k : Int) + n) % 4).toNat then a k else tnk a n k m := by
  unfold tnk
  by_cases h : m = (((k : Int) + n) % 4).toNat
  · have e : (((m : Int) - n) % 4).toNat = k := by omega
    rw [if_pos h, e, if_pos (by omega)]
  · rw [if_neg h]
    have e : (((m : Int) - n) % 4).toNat ≠ k := by omega
    by_cases h2 : (((m : Int) - n) % 4).toNat < k
    · rw [if_pos h2, if_pos (by omega)]
    · rw [if_neg h2, if_neg (by omega)]
def Cells8 (a b : Nat → Int) : Array Value := #[.int .i64 (a 0), .int .i64 (b 0), .int .i64 (a 1), .int .i64 (b 1), .int .i64 (a 2), .int .i64 (b 2), .int .i64 (a 3), .int .i64 (b 3)]
theorem cells8_set (a b : Nat → Int) (k : Nat) (x y : Int) (hk : k < 4) : ((Cells8 a b).setIfInBounds (k * 2) (.int .i64 x)).setIfInBounds (k * 2 + 1) (.int .i64 y) = Cells8 (fun m => if m = k then x else a m) (fun m => if m = k then y else b m) := by
  obtain rfl | rfl | rfl | rfl : k = 0 ∨ k = 1 ∨ k = 2 ∨ k = 3 := by omega
  all_goals rfl
theorem cells8_eq {a b c d : Nat → Int} (h : ∀ m, m < 4 → a m = c m ∧ b m = d m) : Cells8 a b = Cells8 c d := by
  unfold Cells8
  rw [(h 0 (by omega)).1, (h 1 (by omega)).1, (h 2 (by omega)).1, (h 3 (by omega)).1, (h 0 (by omega)).2, (h 1 (by omega)).2, (h 2 (by omega)).2, (h 3 (by omega)).2]
theorem tn_lt (k : Nat) (n : Int) : (((k : Int) + n) % 4).toNat < 4 := by omega
theorem and_wrap (z : Int) : bits .and .i64 (IntKind.i64.wrap z) 3 = (((z % 4).toNat : Nat) : Int) := by
  rw [and3, IntKind.wrap_i64]
  omega
theorem and_wrap64 (z : Int) : bits .and .i64 (wrap64 z) 3 = (((z % 4).toNat : Nat) : Int) := by
  rw [and3]
  unfold wrap64
  omega
theorem Ext.set {w0 w : World} (h : Ext w0 w) {B : Nat} (hB : w0.heap.size ≤ B) (o : Nat) (v : Value) : Ext w0 (w.setCell ⟨B, o, none⟩ v) := Below.setCell h (p := ⟨B, o, none⟩) hB v
set_option maxRecDepth 100000 in
set_option maxHeartbeats 4000000 in
theorem turn_any (a b : Nat → Int) (n : Int) (w : World) : Calls Tryd.prog 16 #[(.agg #[.int .i64 (a 0), .int .i64 (b 0), .int .i64 (a 1), .int .i64 (b 1), .int .i64 (a 2), .int .i64 (b 2), .int .i64 (a 3), .int .i64 (b 3)]), .int .i64 n] w fun e w' => e = .returned (.agg #[.int .i64 (tn a n 0), .int .i64 (tn b n 0), .int .i64 (tn a n 1), .int .i64 (tn b n 1), .int .i64 (tn a n 2), .int .i64 (tn b n 2), .int .i64 (tn a n 3), .int .i64 (tn b n 3)]) ∧ Ext w w' := by
  have hi : ∀ (j : Nat) (w : World), j < 4 → (Instr.index 29 (.agg #[.int .i64 (a 0), .int .i64 (b 0), .int .i64 (a 1), .int .i64 (b 1), .int .i64 (a 2), .int .i64 (b 2), .int .i64 (a 3), .int .i64 (b 3)]) (.int .i64 (j : Int))).run Tryd.prog w = .ok (.agg #[.int .i64 (a j), .int .i64 (b j)]) w := by
    intro j w hj
    obtain rfl | rfl | rfl | rfl : j = 0 ∨ j = 1 ∨ j = 2 ∨ j = 3 := by omega
    all_goals kernel_rfl
  have HI := Box.mk hi
  clear hi
  obtain ⟨hx, hA, hB⟩ := w8 w a b
  obtain ⟨⟨m0, m1, m2, m3, m4, m5, m6, m7⟩, -⟩ := cx8 hA
  have HB : Box (((w.alloc (.cells #[.int .i64 (a 0), .int .i64 (b 0), .int .i64 (a 1), .int .i64 (b 1), .int .i64 (a 2), .int .i64 (b 2), .int .i64 (a 3), .int .i64 (b 3)] 29)).alloc (.cells #[.int .i64 0, .int .i64 0, .int .i64 0, .int .i64 0, .int .i64 0, .int .i64 0, .int .i64 0, .int .i64 0] 29)).heap[w.heap.size + 1]? = some (.cells (Cells8 (tnk a n 0) (tnk b n 0)) 29 (0, 0))) := ⟨hB⟩
  have HX := Box.mk hx
  clear hx hA hB
  go_enter Tryd.func16, Tryd.ntmps16
  go_wp2
  clear m0 m1 m2 m3 m4 m5 m6 m7
  go_loopw [8] (fun i wr => ∃ k : Nat, k ≤ 4 ∧ i = .int .i64 k ∧ Box (wr.heap[w.heap.size + 1]? = some (.cells (Cells8 (tnk a n k) (tnk b n k)) 29 (0, 0))) ∧ Box (Ext w wr)) (fun i _ => 4 - (intOf i).toNat)
  case atStart => exact ⟨0, by omega, rfl, HB, HX⟩
  case round =>
    obtain ⟨k, hk, rfl, hH, hE⟩ := hrel
    by_cases hk4 : k < 4
    · have hij := fun w => HI.out k w hk4
      have n2 : (k : Int) < 4 := by omega
      have n2' : decide ((k : Int) < 4) = true := decide_eq_true n2
      have hand := and_wrap ((k : Int) + n)
      have hand2 := and_wrap64 ((k : Int) + n)
      have hlt := tn_lt k n
      have hst : Box (Cells8 (tnk a n (k + 1)) (tnk b n (k + 1)) = ((Cells8 (tnk a n k) (tnk b n k)).setIfInBounds ((((k : Int) + n) % 4).toNat * 2) (.int .i64 (a k))).setIfInBounds ((((k : Int) + n) % 4).toNat * 2 + 1) (.int .i64 (b k))) := ⟨by
        rw [cells8_set _ _ _ _ _ hlt]
        exact cells8_eq fun m hm => ⟨tnk_step a n k m hm hk4, tnk_step b n k m hm hk4⟩⟩
      generalize (((k : Int) + n) % 4).toNat = q at *
      have hlt' : (q : Int) < 4 := by omega
      have hEa := Box.mk (Ext.alloc (Below.refl _ wr) (.cells #[.int .i64 (a k), .int .i64 (b k)] 23))
      have hH2 := Box.mk (Ext.blk hEa.out hH.out)
      have c0 : ∃ v, (wr.alloc (.cells #[.int .i64 (a k), .int .i64 (b k)] 23)).cell? ⟨w.heap.size + 1, q * 2, none⟩ = some v := by
        rw [Lib.cell_of_heap hH2.out]
        obtain rfl | rfl | rfl | rfl : q = 0 ∨ q = 1 ∨ q = 2 ∨ q = 3 := by omega
        all_goals exact ⟨_, rfl⟩
      have c1 : ∃ v, (wr.alloc (.cells #[.int .i64 (a k), .int .i64 (b k)] 23)).cell? ⟨w.heap.size + 1, q * 2 + 1, none⟩ = some v := by
        rw [Lib.cell_of_heap hH2.out]
        obtain rfl | rfl | rfl | rfl : q = 0 ∨ q = 1 ∨ q = 2 ∨ q = 3 := by omega
        all_goals exact ⟨_, rfl⟩
      obtain ⟨v0, c0⟩ := c0
      obtain ⟨v1, c1⟩ := c1
      have f0 := Lib.frozen_of_heap hH2.out (q * 2)
      have f1 := Lib.frozen_of_heap hH2.out (q * 2 + 1)
      generalize a k = x at *
      generalize b k = y at *
      have n5 : (0 : Int) ≤ (q : Int) := by omega
      go_wp2
      go_roundw
      case rel =>
        refine ⟨k + 1, by omega, by go_num, ⟨?_⟩, ⟨?_⟩⟩
        · rw [hst.out]
          exact heap_setCell_same _ (w.heap.size + 1) (q * 2 + 1) _ _ _ (heap_setCell_same _ (w.heap.size + 1) (q * 2) _ _ _ hH2.out)
        · exact Ext.set (Ext.set (Ext.trans' hE.out hEa.out) (by omega) _ _) (by omega) _ _
      case measure => simp [intOf]; omega
    · obtain rfl : k = 4 := by omega
      have hH4 : wr.heap[w.heap.size + 1]? = some (.cells #[.int .i64 (tn a n 0), .int .i64 (tn b n 0), .int .i64 (tn a n 1), .int .i64 (tn b n 1), .int .i64 (tn a n 2), .int .i64 (tn b n 2), .int .i64 (tn a n 3), .int .i64 (tn b n 3)] 29 (0, 0)) := by
        rw [hH.out]
        rw [cells8_eq (c := tn a n) (d := tn b n) fun m hm => ⟨tnk_four a n m, tnk_four b n m⟩]
        rfl
      obtain ⟨⟨o0, o1, o2, o3, o4, o5, o6, o7⟩, z0, z1, z2, z3, z4, z5, z6, z7⟩ := cx8 hH4
      go_wp2
      refine bodyPost_ret (v := (.agg #[.int .i64 (tn a n 0), .int .i64 (tn b n 0), .int .i64 (tn a n 1), .int .i64 (tn b n 1), .int .i64 (tn a n 2), .int .i64 (tn b n 2), .int .i64 (tn a n 3), .int .i64 (tn b n 3)])) ?_ rfl ⟨rfl, Ext.st8 hE.out (by omega) _ _ _ _ _ _ _ _⟩
      simp [results, Tryd.results16, go_sem, o0, o1, o2, o3, o4, o5, o6, o7]
end Go.Proofs.YtbnmnkmjokcmfaaDoor
