import Derived.Test.YtbhfpofcebepiaaB27
/- The law BeladyNext. -/
namespace Go.Proofs.Ytbhfpofcebepiaa
open Go.RowKit
theorem own_cells {W : World} {base size n c : Nat} {e : TypeId} {a : Option Addr} {xs : List Value} (h : W.ownsRow base e size (.slice a n c) n xs) : CellsAt W a xs := by
  rcases h.2 with ⟨hv, h0⟩ | ⟨g, cap, cur, hv, hbg, hg, hnc, hcm, hcs, htk⟩
  · intro j u hj
    have : xs = [] := List.length_eq_zero_iff.1 (by rw [h.1, h0]; simp)
    rw [this] at hj
    simp at hj
  · simp only [Value.slice.injEq] at hv
    obtain ⟨rfl, -, rfl⟩ := hv
    intro j u hj
    refine ⟨g, 0, rfl, ?_⟩
    rw [Nat.zero_add, Lib.cell_of_heap hg, ← Array.getElem?_toList]
    rw [← htk, List.getElem?_take] at hj
    split at hj
    · exact hj
    · cases hj
/-- A trace that comes in. -/
theorem trace_arg {W : World} {v : Value} (h : IntsArg .u32 W v) : ∃ (a : Option Addr) (c : Nat) (L : List Nat), v = .slice a L.length c ∧ CellsAt W a (u32L L) := by
  obtain ⟨a, n, c, zs, rfl, hz, hnc, hc, hwf, hcell⟩ := h
  refine ⟨a, c, zs.map Int.toNat, by rw [List.length_map, hz], ?_⟩
  have : u32L (zs.map Int.toNat) = zs.map (Value.int .u32) := by
    unfold u32L
    rw [List.map_map]
    refine List.map_congr_left fun z hm => ?_
    have := hwf z hm
    have h0 : 0 ≤ z := by
      simp [Lit.wf, IntKind.min, IntKind.signed] at this
      exact this.1
    simp [Int.toNat_of_nonneg h0]
  rw [this]
  exact hcell
set_option maxRecDepth 100000 in
set_option maxHeartbeats 4000000 in
theorem lawBeladyNext_walk (v0 : Value) (W : World) (h : IntsArg .u32 W v0) :
    Calls Try.prog 3 #[v0] W fun e W' => e = .returned (.bool true) ∧ Below W.heap.size W W' := by
  obtain ⟨a, c, L, rfl, hC⟩ := trace_arg h
  have cK : Box (∀ w, _) := ⟨fun w => known_any w⟩
  by_cases hL : 300 < L.length
  · have d1 : decide ((L.length : Int) > 300) = true := decide_eq_true (by omega)
    have d2 : decide ((300 : Int) < (L.length : Int)) = true := decide_eq_true (by omega)
    have d3 : decide (300 < L.length) = true := decide_eq_true hL
    clear h hC
    generalize L.length = n at *
    go_enter Try.func3, Try.ntmps3
    go_wp2_with (first | (go_at_call 9; (with_reducible refine (cK.out _).mono ?_); rintro e w1 ⟨rfl, hx1⟩))
    go_ret
    exact ⟨rfl, hx1⟩
  · have d1 : decide ((L.length : Int) > 300) = false := decide_eq_false (by omega)
    have d2 : decide ((300 : Int) < (L.length : Int)) = false := decide_eq_false (by omega)
    have d3 : decide (300 < L.length) = false := decide_eq_false hL
    have hnl : (nextL L L.length).length = L.length := by simp [nextL]
    have cN := Box.mk (Next_ok a c L W (by omega) hC)
    have cR : Box (∀ w, Ext W w → Calls Try.prog 12 #[.slice a L.length c] w fun e w' => ∃ a' c', e = .returned (.slice a' L.length c') ∧ CellsAt w' a' (i64L (nextL L L.length)) ∧ Ext w w') := ⟨fun w hx => (rNext_any a c L w (by omega) (CellsAt.keep hx hC)).mono (by
      rintro e w' ⟨a', c', he, ho, hb⟩
      exact ⟨a', c', he, own_cells ho, hb⟩)⟩
    have cI : Box (∀ a1 c1 a2 c2 w, CellsAt w a1 (i64L (nextL L L.length)) → CellsAt w a2 (i64L (nextL L L.length)) → Calls Try.prog 11 #[.slice a1 L.length c1, .slice a2 L.length c2] w fun e w' => e = .returned (.bool true) ∧ Ext w w') := ⟨fun a1 c1 a2 c2 w h1 h2 => by
      have := rints_any a1 a2 c1 c2 (nextL L L.length) w (by omega) h1 h2
      rw [hnl] at this
      exact this⟩
    clear h hC
    generalize nextL L L.length = NL at *
    generalize L.length = n at *
    go_enter Try.func3, Try.ntmps3
    go_wp2_with (first
      | (go_at_call 9; (with_reducible refine (cK.out _).mono ?_); rintro e w4 ⟨rfl, hx4⟩)
      | (go_at_call 10; (with_reducible refine (cN.out).mono ?_); rintro e w1 ⟨a1, c1, rfl, hc1, hx1⟩; replace hc1 := Box.mk hc1)
      | (go_at_call 12; (with_reducible refine (cR.out _ hx1).mono ?_); rintro e w2 ⟨a2, c2, rfl, hc2, hx2⟩; replace hc2 := Box.mk hc2)
      | (go_at_call 11; (with_reducible refine (cI.out _ _ _ _ _ (CellsAt.keep hx2 hc1.out) hc2.out).mono ?_); rintro e w3 ⟨rfl, hx3⟩))
    go_ret
    exact ⟨rfl, Ext.trans' hx1 (Ext.trans' hx2 (Ext.trans' hx3 hx4))⟩
end Go.Proofs.Ytbhfpofcebepiaa
