import Derived.Test.YthlnhemdhlkhfaaDoorD29
/- append(x, make([]uint32, n)...) : its length, and that the world only grew. -/
namespace Go.Proofs.YthlnhemdhlkhfaaDoor
open Go.RowKit

theorem u32_slice : Tryd.prog.underlying 30 = some (.slice 56) ∧ Tryd.prog.underlying 3 = some (.int .i64) := ⟨Tryd.underlying30, Tryd.underlying3⟩
theorem app_zeros_grow (w : World) (i : TypeInfo) (hi : Tryd.prog.info? 56 = some i) (hz : i.zero = some (.int .u32 0)) (h1 : i.size = 1) (h4 : i.bytes = 4) (b : Addr) (n cap : Nat) (olds : List Value) (hlo : olds.length = n) (holds : ∀ j v, olds[j]? = some v → w.cell? (b.add j) = some v) (hn : n ≤ 300) (hg : cap < 4097) :
    ∃ c' w', (Builtin.append_ #[30, 3] 30 #[.slice (some b) n cap, .int .i64 (4097 - (n : Int))]).run Tryd.prog w = .ok (.slice (some ⟨w.heap.size, 0, none⟩) 4097 c') w' ∧ Ext w w' := by
  have hfo := run_firstCells_some (P := Tryd.prog) w.drew 1 n b n cap olds (by rw [hlo, Nat.mul_one]) (by simpa using holds)
  have hw : IntKind.i64.wrap (4097 - (n : Int)) = 4097 - (n : Int) := by rw [IntKind.wrap_i64]; omega
  have e0 : ¬ (4097 - (n : Int) < 0) := by omega
  have e1 : ¬ (281474976710656 < (4097 - (n : Int)) * 4) := by omega
  have e2 : (4097 - (n : Int)).toNat = 4097 - n := by omega
  have e3 : n + (4097 - n) = 4097 := by omega
  have e4 : ¬ (4097 ≤ cap) := by omega
  have e5 : ¬ (4097 - n = 0) := by omega
  have h48 : ¬ (281474976710656 < Builtin.nextslicecap 4097 cap * 4) := by
    have := growslice_fits (show cap < 4097 from hg) (show 4097 * 4 ≤ 140737488355328 by decide)
    omega
  refine ⟨grownCap w 4097 cap 56, w.drew.alloc (.cells (olds.toArray ++ Builtin.zeroCells (Value.int .u32 0).cells (4097 - n) ++ Builtin.zeroCells (Value.int .u32 0).cells (grownCap w 4097 cap 56 - 4097)) 56), ?_, Ext.alloc (Ext.drewN (Below.refl _ _) 1) _⟩
  simp [Builtin.append_, run_underlying u32_slice.1, run_underlying u32_slice.2, sizeOf, typeInfo, zeroValue, hi, hz, h1, h4, asInt, asIntOf, hw, e0, e1, e2, e3, e4, e5, h48, Question.forced, hfo, newRow, grownCap]
  intro h
  omega
theorem below_setCells {B b : Nat} (hB : B ≤ b) {a : World} : ∀ (vs : List Value) (o : Nat) (w : World), Below B a w → Below B a (w.setCells b o vs)
  | [], _, _, h => h
  | v :: r, o, w, h => below_setCells hB r (o + 1) _ (Below.setCell h (p := ⟨b, o, none⟩) hB v)
theorem app_zeros_room (w : World) (i : TypeInfo) (hi : Tryd.prog.info? 56 = some i) (hz : i.zero = some (.int .u32 0)) (h1 : i.size = 1) (h4 : i.bytes = 4) (base g n cap : Nat) (xs : List Value) (h : w.ownsRow base 56 1 (.slice (some ⟨g, 0, none⟩) n cap) n xs) (hn : n ≤ 300) (hc : 4097 ≤ cap) :
    ∃ w', (Builtin.append_ #[30, 3] 30 #[.slice (some ⟨g, 0, none⟩) n cap, .int .i64 (4097 - (n : Int))]).run Tryd.prog w = .ok (.slice (some ⟨g, 0, none⟩) 4097 cap) w' ∧ Below base w w' := by
  rcases h.2 with ⟨h', _⟩ | ⟨g', cap', cur, h', hb, hg, hnc, hcm, hcs, htake⟩
  · simp at h'
  · simp only [Value.slice.injEq, Option.some.injEq, Addr.mk.injEq, and_true, true_and] at h'
    obtain ⟨rfl, rfl⟩ := h'
    have hw : IntKind.i64.wrap (4097 - (n : Int)) = 4097 - (n : Int) := by rw [IntKind.wrap_i64]; omega
    have e0 : ¬ (4097 - (n : Int) < 0) := by omega
    have e1 : ¬ (281474976710656 < (4097 - (n : Int)) * 4) := by omega
    have e2 : (4097 - (n : Int)).toNat = 4097 - n := by omega
    have e3 : n + (4097 - n) = 4097 := by omega
    have e5 : ¬ (4097 - n = 0) := by omega
    obtain ⟨zs, hzs⟩ : ∃ zs, zs = Builtin.zeroCells (Value.int .u32 0).cells (4097 - n) := ⟨_, rfl⟩
    have hzl : zs.toList.length = 4097 - n := by rw [hzs]; simp [Builtin.zeroCells]; exact Nat.mul_one _
    have hz1 : ∀ v ∈ zs.toList, v.oneCell' = true := by
      rw [hzs]
      intro v hv
      simp [Builtin.zeroCells] at hv
      obtain ⟨j, hj, rfl⟩ := hv
      show (#[Value.int .u32 0])[j % 1]!.oneCell' = true
      rw [Nat.mod_one]
      rfl
    have hst := run_storeCells_cells (P := Tryd.prog) g n zs.toList 0 w (fun j hj => by
      rw [Lib.cell_of_heap hg]
      simp
      omega) (fun j hj => Lib.frozen_of_heap hg _) hz1
    simp only [Nat.add_zero] at hst
    refine ⟨w.setCells g n zs.toList, ?_, below_setCells hb _ _ _ (Below.refl _ _)⟩
    simp [Builtin.append_, run_underlying u32_slice.1, run_underlying u32_slice.2, sizeOf, typeInfo, zeroValue, hi, hz, h1, h4, asInt, asIntOf, hw, e0, e1, e2, e3, e5, hc, Addr.add_lit, ← hzs, hst]
end Go.Proofs.YthlnhemdhlkhfaaDoor
