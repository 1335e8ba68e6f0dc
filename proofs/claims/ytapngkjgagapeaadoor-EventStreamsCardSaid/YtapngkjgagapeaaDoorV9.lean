import Derived.Test.YtapngkjgagapeaaDoorV8
/- The reference's Parse of a line, walked. -/
namespace Go.Proofs.YtapngkjgagapeaaDoor
open Go.RowKit

theorem By.keepSet {w : World} {v : Value} {l : List UInt8} (h : By w v l) {p : Addr} {x : Value} (hp : w.cell? p = some x) (hx : ∀ z, x ≠ .int .u8 z) (y : Value) : By (w.setCell p y) v l := by
  obtain ⟨a, c, h1, h2, h3, h4, h5⟩ := h
  refine ⟨a, c, h1, h2, h3, h4, fun hn => ?_⟩
  obtain ⟨b, o, ha, hc⟩ := h5 hn
  refine ⟨b, o, ha, fun i hi => ?_⟩
  by_cases e : p = ⟨b, o + i, none⟩
  · subst e
    rw [hc i hi] at hp
    cases hp
    exact absurd rfl (hx _)
  · rw [World.cell?_setCell_other (h := e)]
    exact hc i hi
theorem row6 {w : World} {base : Nat} {v : Value} {x0 x1 x2 x3 x4 x5 : ByteArray} (h : w.ownsRow base 9 1 v 6 [.string x0, .string x1, .string x2, .string x3, .string x4, .string x5]) :
    ∃ g cap, v = .slice (some ⟨g, 0, none⟩) 6 cap ∧ 6 ≤ cap ∧ w.cell? ⟨g, 0, none⟩ = some (.string x0) ∧ w.cell? ⟨g, 1, none⟩ = some (.string x1) ∧ w.cell? ⟨g, 2, none⟩ = some (.string x2) ∧ w.cell? ⟨g, 3, none⟩ = some (.string x3) ∧ w.cell? ⟨g, 4, none⟩ = some (.string x4) ∧ w.cell? ⟨g, 5, none⟩ = some (.string x5) := by
  have hh := h
  rcases h.2 with ⟨_, h0⟩ | ⟨g, cap, cur, hv, _, _, hnc, _⟩
  · omega
  · subst hv
    refine ⟨g, cap, rfl, hnc, ?_, ?_, ?_, ?_, ?_, ?_⟩
    · have := hh.cells (g := g) rfl 0 (.string x0) rfl
      rwa [Go.WideShapes.add_plain] at this
    · have := hh.cells (g := g) rfl 1 (.string x1) rfl
      rwa [Go.WideShapes.add_plain] at this
    · have := hh.cells (g := g) rfl 2 (.string x2) rfl
      rwa [Go.WideShapes.add_plain] at this
    · have := hh.cells (g := g) rfl 3 (.string x3) rfl
      rwa [Go.WideShapes.add_plain] at this
    · have := hh.cells (g := g) rfl 4 (.string x4) rfl
      rwa [Go.WideShapes.add_plain] at this
    · have := hh.cells (g := g) rfl 5 (.string x5) rfl
      rwa [Go.WideShapes.add_plain] at this
theorem Ext.st6 {w w1 : World} (h : Ext w w1) {B : Nat} (hB : w.heap.size ≤ B) (a b c d e f : Value) : Ext w ((((((w1.setCell ⟨B, 0, none⟩ a).setCell ⟨B, 1, none⟩ b).setCell ⟨B, 2, none⟩ c).setCell ⟨B, 3, none⟩ d).setCell ⟨B, 4, none⟩ e).setCell ⟨B, 5, none⟩ f) :=
  (((((Below.setCell h (p := ⟨B, 0, none⟩) hB _).setCell (p := ⟨B, 1, none⟩) hB _).setCell (p := ⟨B, 2, none⟩) hB _).setCell (p := ⟨B, 3, none⟩) hB _).setCell (p := ⟨B, 4, none⟩) hB _).setCell (p := ⟨B, 5, none⟩) hB _
theorem blk6f {w : World} {B : Nat} {c0 c1 c2 c3 c4 c5 : Value} {T : TypeId} (h : w.heap[B]? = some (.cells #[c0, c1, c2, c3, c4, c5] T (0, 0))) :
    w.frozen? ⟨B, 0, none⟩ = false ∧ w.frozen? ⟨B, 1, none⟩ = false ∧ w.frozen? ⟨B, 2, none⟩ = false ∧ w.frozen? ⟨B, 3, none⟩ = false ∧ w.frozen? ⟨B, 4, none⟩ = false ∧ w.frozen? ⟨B, 5, none⟩ = false :=
  ⟨Lib.frozen_of_heap h 0, Lib.frozen_of_heap h 1, Lib.frozen_of_heap h 2, Lib.frozen_of_heap h 3, Lib.frozen_of_heap h 4, Lib.frozen_of_heap h 5⟩
set_option maxRecDepth 100000 in
set_option maxHeartbeats 4000000 in
theorem rvp_len (s : ByteArray) (w : World) (hs : s.size ≤ 200000) (h : (splitL s.data.toList).length ≠ 6) :
    Calls Tryd.prog 12 #[.string s] w fun e w' => e = .returned (.tuple #[(.agg #[.int .i64 0, .string ⟨#[]⟩, .slice none 0 0, .int .u64 0, .int .u64 0, .int .u64 0]), .bool false]) ∧ Ext w w' := by
  have hR := newblk w (.cells #[.int .i64 0, .string ⟨#[]⟩, .slice none 0 0, .int .u64 0, .int .u64 0, .int .u64 0] 28)
  have hx0 : Ext w (w.alloc (.cells #[.int .i64 0, .string ⟨#[]⟩, .slice none 0 0, .int .u64 0, .int .u64 0, .int .u64 0] 28)) := Ext.alloc (Below.refl _ _) _
  obtain ⟨n, hn, cS⟩ : ∃ n : Nat, n ≠ 6 ∧ Box (Calls Tryd.prog 36 #[.string s] (w.alloc (.cells #[.int .i64 0, .string ⟨#[]⟩, .slice none 0 0, .int .u64 0, .int .u64 0, .int .u64 0] 28)) fun e w' => ∃ a c, e = .returned (.slice a n c) ∧ Ext (w.alloc (.cells #[.int .i64 0, .string ⟨#[]⟩, .slice none 0 0, .int .u64 0, .int .u64 0, .int .u64 0] 28)) w') := ⟨_, h, ⟨(rsplit_any s _ hs).mono fun e w' ⟨v, he, ho, hb⟩ => by
    rcases ho.2 with ⟨rfl, h0⟩ | ⟨g, cap, cur, rfl, _⟩
    · exact ⟨none, 0, by rw [he, h0], hb⟩
    · exact ⟨_, _, he, hb⟩⟩⟩
  have e1 : ((n : Int) != 6) = true := by rw [bne_iff_ne]; omega
  clear h hn
  go_enter Tryd.func12, Tryd.ntmps12
  go_wp2_with (first
    | (go_at_call 36; (with_reducible refine cS.out.mono ?_); rintro e w1 ⟨a, c, rfl, hb⟩; have hx := Ext.trans' hx0 hb; have hR := Ext.blk hb hR; obtain ⟨m0, m1, m2, m3, m4, m5⟩ := blk6 hR; obtain ⟨f0, f1, f2, f3, f4, f5⟩ := blk6f hR))
  refine bodyPost_ret (v := .tuple #[(.agg #[.int .i64 0, .string ⟨#[]⟩, .slice none 0 0, .int .u64 0, .int .u64 0, .int .u64 0]), .bool false]) ?_ rfl ⟨rfl, Ext.st6 hx (Nat.le_refl _) _ _ _ _ _ _⟩
  simp [results, Tryd.results12, go_sem, m0, m1, m2, m3, m4, m5]

end Go.Proofs.YtapngkjgagapeaaDoor
