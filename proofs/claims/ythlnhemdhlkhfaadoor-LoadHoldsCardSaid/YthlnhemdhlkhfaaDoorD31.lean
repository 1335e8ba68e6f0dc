import Derived.Test.YthlnhemdhlkhfaaDoorD30
import Derived.Maps.AppendAt
/- A trace with zeros behind it. -/
namespace Go.Proofs.YthlnhemdhlkhfaaDoor
open Go.RowKit

theorem app_zeros_nil (w : World) (i : TypeInfo) (hi : Tryd.prog.info? 56 = some i) (hz : i.zero = some (.int .u32 0)) (h1 : i.size = 1) (h4 : i.bytes = 4) :
    ∃ c' w', (Builtin.append_ #[30, 3] 30 #[.slice none 0 0, .int .i64 (4097 - ((0 : Nat) : Int))]).run Tryd.prog w = .ok (.slice (some ⟨w.heap.size, 0, none⟩) 4097 c') w' ∧ Ext w w' := by
  have hw : IntKind.i64.wrap (4097 : Int) = 4097 := by rw [IntKind.wrap_i64]; omega
  have h48 : ¬ (281474976710656 < Builtin.nextslicecap 4097 0 * 4) := by
    have := growslice_fits (show 0 < 4097 by decide) (show 4097 * 4 ≤ 140737488355328 by decide)
    omega
  refine ⟨grownCap w 4097 0 56, w.drew.alloc (.cells (Builtin.zeroCells (Value.int .u32 0).cells 4097 ++ Builtin.zeroCells (Value.int .u32 0).cells (grownCap w 4097 0 56 - 4097)) 56), ?_, Ext.alloc (Ext.drewN (Below.refl _ _) 1) _⟩
  simp [Builtin.append_, run_underlying u32_slice.1, run_underlying u32_slice.2, sizeOf, typeInfo, zeroValue, hi, hz, h1, h4, asInt, asIntOf, hw, h48, Question.forced, newRow, grownCap, Builtin.firstCells]
  intro h
  omega
/-- append(append(nil, x...), make([]uint32, 4097-len(x))...): a list of 4097. -/
theorem long_trace (w : World) (a : Option Addr) (n c : Nat) (zs : List Int) (hl : zs.length = n) (hn : n ≤ 300) (hc : CellsAt w a (zs.map (Value.int .u32))) :
    ∃ a1 c1 w1 a2 c2 w2, (Builtin.append_ #[30, 30] 30 #[.slice none 0 0, .slice a n c]).run Tryd.prog w = .ok (.slice a1 n c1) w1 ∧ (Builtin.append_ #[30, 3] 30 #[.slice a1 n c1, .int .i64 (4097 - (n : Int))]).run Tryd.prog w1 = .ok (.slice a2 4097 c2) w2 ∧ Ext w w2 := by
  obtain ⟨i0, hi, hz0, hz1, hz2⟩ := info_parts infoU32
  have fin : ∀ (v' : Value) (w1 : World), w1.ownsRow w.heap.size 56 1 v' n (zs.map (Value.int .u32)) → Ext w w1 → (Builtin.append_ #[30, 30] 30 #[.slice none 0 0, .slice a n c]).run Tryd.prog w = .ok v' w1 →
      ∃ a1 c1 w1 a2 c2 w2, (Builtin.append_ #[30, 30] 30 #[.slice none 0 0, .slice a n c]).run Tryd.prog w = .ok (.slice a1 n c1) w1 ∧ (Builtin.append_ #[30, 3] 30 #[.slice a1 n c1, .int .i64 (4097 - (n : Int))]).run Tryd.prog w1 = .ok (.slice a2 4097 c2) w2 ∧ Ext w w2 := by
    intro v' w1 ho hb hr
    have ho' := ho
    rcases ho.2 with ⟨rfl, rfl⟩ | ⟨g, cap, cur, rfl, hgb, hg, _⟩
    · obtain ⟨c', w2, h1, h2⟩ := app_zeros_nil w1 i0 hi hz0 hz1 hz2
      exact ⟨none, 0, w1, _, c', w2, hr, h1, Ext.trans' hb h2⟩
    · by_cases hcap : 4097 ≤ cap
      · obtain ⟨w2, h1, h2⟩ := app_zeros_room w1 i0 hi hz0 hz1 hz2 _ g n cap _ ho' hn hcap
        exact ⟨_, cap, w1, _, cap, w2, hr, h1, hb.trans h2⟩
      · obtain ⟨c', w2, h1, h2⟩ := app_zeros_grow w1 i0 hi hz0 hz1 hz2 ⟨g, 0, none⟩ n cap _ (by simp [hl]) (fun j u hu => ho'.cells (g := g) rfl j u hu) hn (by omega)
        exact ⟨_, cap, w1, _, c', w2, hr, h1, Ext.trans' hb h2⟩
  have hone : ∀ u ∈ zs.map (Value.int .u32), u.oneCell' = true := by intro u hu; simp only [List.mem_map] at hu; obtain ⟨z, _, rfl⟩ := hu; rfl
  cases a with
  | none =>
    have h0 : n = 0 := by
      rcases Nat.eq_zero_or_pos n with h | h
      · exact h
      · obtain ⟨b, o, he, _⟩ := hc 0 (.int .u32 (zs[0]'(by omega))) (by simp [show 0 < zs.length by omega])
        cases he
    subst h0
    obtain rfl : zs = [] := List.eq_nil_of_length_eq_zero hl
    exact fin (.slice none 0 0) w (World.ownsRow_nil _ _ _ _) (Below.refl _ _) (by simp [Builtin.append_, run_underlying Tryd.underlying30, sizeOf, typeInfo, hi, Builtin.lenOf, Builtin.firstCells])
  | some ad =>
    obtain ⟨v', w', hrun, h2, h3, _, _⟩ := run_append_own_at (P := Tryd.prog) w w.heap.size 30 30 56 i0 (.int .u32 0) 1 4 Tryd.underlying30 hi hz0 hz1 hz2 rfl (by decide) (.slice none 0 0) 0 [] (World.ownsRow_nil _ _ _ _) ad n c (zs.map (Value.int .u32)) (by simp [hl]) (fun j u hu => by
        obtain ⟨b, o, he, hcell⟩ := hc j u hu
        cases he
        rw [Go.WideShapes.add_plain]
        exact hcell) hone (by unfold maxLen; omega) (by omega) (Nat.le_refl _)
    rw [Nat.zero_add, List.nil_append] at h2
    exact fin v' w' h2 (Below.grown (Below.refl _ _) h3 (Nat.le_refl _) (fun j hj => by cases hj)) hrun
end Go.Proofs.YthlnhemdhlkhfaaDoor
