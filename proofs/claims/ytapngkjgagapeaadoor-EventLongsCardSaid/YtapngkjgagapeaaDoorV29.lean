import Derived.Test.YtapngkjgagapeaaDoorVQ
import Derived.Laws.MakeOwn
import Derived.Laws.OwnMore
import Derived.Deep.CutRange
/- EventLongs: a key and a value that are made at their limits. -/
namespace Go.Proofs.YtapngkjgagapeaaDoor
open Go.RowKit
theorem infoU8 : (Tryd.prog.info? 5).map (fun i => (i.zero, i.size, i.bytes)) = some (some (.int .u8 0), 1, 1) := by kernel_rfl
theorem make_u8 (n : Nat) (hn : n ≤ 200000) : ∃ cs : Array Value, (∀ w, (Instr.makeSlice 24 (.int .i64 (n : Int)) (.int .i64 (n : Int))).run Tryd.prog w = .ok (.slice (some ⟨w.heap.size, 0, none⟩) n n) (w.alloc (.cells cs 5))) ∧ ∀ (wx : World) (B : Nat), wx.heap[B]? = some (.cells cs 5 (0, 0)) → By wx (.slice (some ⟨B, 0, none⟩) n n) (List.replicate n 0) := by
  obtain ⟨i, hi, he⟩ := Option.map_eq_some_iff.1 infoU8
  simp only [Prod.mk.injEq] at he
  obtain ⟨e1, e2, e3⟩ := he
  refine ⟨madeCells #[.int .u8 0] n, fun w => ?_, fun wx B h => ?_⟩
  · have h9 := run_makeSlice (P := Tryd.prog) (w := w) 24 5 i (.int .u8 0) Tryd.underlying24 hi e1 .i64 .i64 n n (by omega) (Int.le_refl _) (by rw [e2]; omega) (by rw [e3]; omega) (by omega)
    rw [e2] at h9
    simp only [Int.toNat_natCast, Nat.mul_one] at h9
    exact h9
  · refine ⟨some ⟨B, 0, none⟩, n, by rw [List.length_replicate], by rw [List.length_replicate]; omega, trivial, trivial, fun h0 => ⟨B, 0, rfl, fun j hj => ?_⟩⟩
    rw [List.length_replicate] at hj
    rw [Lib.cell_of_heap h, ← Array.getElem?_toList, toList_madeCells_one]
    simp [nums, hj]
set_option maxRecDepth 100000 in
set_option maxHeartbeats 4000000 in
theorem longs_out (key value : Int) (W : World) (ht : EnvV W) (ho : ¬ (-1 ≤ key ∧ key ≤ 1 ∧ -1 ≤ value ∧ value ≤ 1)) :
    Calls Tryd.prog 4 #[.int .i64 key, .int .i64 value] W fun e W' => e = .returned (.bool true) ∧ Below W.heap.size W W' := by
  have ck : Box (∀ w, Ext W w → Calls Tryd.prog 11 #[] w fun e w' => e = .returned (.bool true) ∧ Ext w w') := ⟨fun w h => known_any w (ht.ext h)⟩
  have hx : Ext W W := Below.refl _ _
  obtain h | ⟨h1, h⟩ | ⟨h1, h2, h⟩ | ⟨h1, h2, h3, h⟩ : decide (key < -1) = true ∨ (decide (key < -1) = false ∧ decide (1 < key) = true) ∨ (decide (key < -1) = false ∧ decide (1 < key) = false ∧ decide (value < -1) = true) ∨ (decide (key < -1) = false ∧ decide (1 < key) = false ∧ decide (value < -1) = false ∧ decide (1 < value) = true) := by
    simp only [decide_eq_true_eq, decide_eq_false_iff_not]
    omega
  all_goals
    clear ht ho
    go_enter Tryd.func4, Tryd.ntmps4
    go_wp2_with (first | (go_at_call 11; (with_reducible refine (ck.out _ hx).mono ?_); rintro e w1 ⟨rfl, hb⟩; have hx := Ext.trans' hx hb))
    go_ret
    exact ⟨rfl, hx⟩
end Go.Proofs.YtapngkjgagapeaaDoor
