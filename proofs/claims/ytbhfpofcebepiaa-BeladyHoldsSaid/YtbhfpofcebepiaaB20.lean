import Derived.Test.YtbhfpofcebepiaaB19
import Derived.Maps.AppendAt
/- What Turns keeps in memory, step by step. -/
namespace Go.Proofs.Ytbhfpofcebepiaa
open Go.RowKit
theorem infoTn : (Try.prog.info? 50).map (fun i => (i.zero, i.size, i.bytes)) = some (some (.agg #[.bool false, .bool false, .int .u32 0]), 3, 8) := by kernel_rfl
theorem make_tn (n : Nat) (hn : n ≤ 200000) (w : World) : (Instr.makeSlice 31 (.int .i64 (n : Int)) (.int .i64 (n : Int))).run Try.prog w = .ok (.slice (some ⟨w.heap.size, 0, none⟩) n n) (w.alloc (.cells (rows TnB.cs (List.replicate n ⟨false, false, 0⟩)).toArray 50)) := by
  obtain ⟨i, hi, he⟩ := Option.map_eq_some_iff.1 infoTn
  simp only [Prod.mk.injEq] at he
  obtain ⟨e1, e2, e3⟩ := he
  have h9 := run_makeSlice (P := Try.prog) (w := w) 31 50 i (.agg #[.bool false, .bool false, .int .u32 0]) Try.underlying31 hi e1 .i64 .i64 n n (by omega) (Int.le_refl _) (by rw [e2]; omega) (by rw [e3]; omega) (by omega)
  rw [e2] at h9
  simp only [Int.toNat_natCast] at h9
  rw [h9]
  have : madeCells (Value.agg #[.bool false, .bool false, .int .u32 0]).cells (n * 3) = (rows TnB.cs (List.replicate n ⟨false, false, 0⟩)).toArray := by
    apply Array.ext'
    show (madeCells #[.bool false, .bool false, .int .u32 0] (n * 3)).toList = rows TnB.cs (List.replicate n ⟨false, false, 0⟩)
    apply List.ext_getElem?
    intro j
    by_cases hj : j < n * 3
    · have hd : 3 * (j / 3) + j % 3 = j := Nat.div_add_mod j 3
      have hi : j / 3 < (List.replicate n (⟨false, false, 0⟩ : TnB)).length := by rw [List.length_replicate]; omega
      have hm := Nat.mod_lt j (show 0 < 3 by decide)
      have := rows_at TnB.cs 3 (fun _ => rfl) (List.replicate n ⟨false, false, 0⟩) (j / 3) (j % 3) hi hm
      rw [hd] at this
      rw [this, List.getElem_replicate]
      have e : j % 3 = 0 ∨ j % 3 = 1 ∨ j % 3 = 2 := by omega
      rcases e with e | e | e <;> simp [madeCells, hj, e, TnB.cs]
    · rw [List.getElem?_eq_none (by simp [madeCells]; omega), List.getElem?_eq_none (by rw [rows_len TnB.cs 3 (fun _ => rfl), List.length_replicate]; omega)]
  rw [this]
/-- Within a round. -/
structure MidR (w1 : World) (M : List TnB) (P : List (Nat × Nat)) (a : Option Addr) (c : Nat) (W : World) : Prop where
  ext : Ext w1 W
  out : W.heap[w1.heap.size]? = some (.cells (rows TnB.cs M).toArray 50 (0, 0))
  own : W.ownsRow (w1.heap.size + 1) 65 2 (.slice a P.length c) P.length (rows plC P)
section
variable {w1 : World} {M : List TnB} {P : List (Nat × Nat)} {a : Option Addr} {c : Nat} {W W' : World}
theorem MidR.of_ext (h : MidR w1 M P a c W) (hx : Ext W W') : MidR w1 M P a c W' := ⟨Ext.trans' h.ext hx, Ext.blk hx h.out, ownsRow_ext hx h.own⟩
theorem MidR.size (h : MidR w1 M P a c W) : w1.heap.size + 1 ≤ W.heap.size := blk_lt h.out
theorem MidR.cells (h : MidR w1 M P a c W) : CellsAt W a (rows plC P) := by
  rcases h.own.2 with ⟨hv, h0⟩ | ⟨g, cap, cur, hv, hbg, hg, hnc, hcm, hcs, htk⟩
  · intro j u hj
    have : P = [] := List.length_eq_zero_iff.1 h0
    rw [this] at hj
    simp [rows] at hj
  · simp only [Value.slice.injEq] at hv
    obtain ⟨rfl, -, rfl⟩ := hv
    intro j u hj
    refine ⟨g, 0, rfl, ?_⟩
    rw [Nat.zero_add, Lib.cell_of_heap hg, ← Array.getElem?_toList]
    rw [← htk, List.getElem?_take] at hj
    split at hj
    · exact hj
    · cases hj
theorem MidR.shape (h : MidR w1 M P a c W) (h0 : 0 < P.length) : ∃ g, a = some ⟨g, 0, none⟩ ∧ w1.heap.size + 1 ≤ g ∧ g < W.heap.size := by
  rcases h.own.2 with ⟨hv, h0⟩ | ⟨g, cap, cur, hv, hbg, hg, hnc, hcm, hcs, htk⟩
  · omega
  · simp only [Value.slice.injEq] at hv
    exact ⟨g, hv.1, hbg, blk_lt hg⟩
theorem MidR.outCell (h : MidR w1 M P a c W) {t q : Nat} {u : Value} (hu : (rows TnB.cs M)[t * 3 + q]? = some u) : W.cell? ⟨w1.heap.size, t * 3 + q, none⟩ = some u ∧ W.frozen? ⟨w1.heap.size, t * 3 + q, none⟩ = false := by
  refine ⟨?_, Lib.frozen_of_heap h.out _⟩
  rw [Lib.cell_of_heap h.out, ← Array.getElem?_toList]
  exact hu
theorem MidR.hit (h : MidR w1 M P a c W) {t : Nat} (ht : M[t]? = some ⟨false, false, 0⟩) : MidR w1 (M.set t ⟨true, false, 0⟩) P a c (W.setCell ⟨w1.heap.size, t * 3, none⟩ (.bool true)) := by
  refine ⟨Below.setCell h.ext (p := ⟨w1.heap.size, t * 3, none⟩) (Nat.le_refl _) _, ?_, ownsRow_far h.own (by omega) _⟩
  rw [heap_setCell_same W w1.heap.size (t * 3) _ _ _ h.out, List.setIfInBounds_toArray, tn_set1 M t _ true ht]
theorem MidR.left (h : MidR w1 M P a c W) {t : Nat} (ht : t < M.length) (b l : Bool) (o : Nat) : MidR w1 (M.set t ⟨b, l, o⟩) P a c (((W.setCell ⟨w1.heap.size, t * 3, none⟩ (.bool b)).setCell ⟨w1.heap.size, t * 3 + 1, none⟩ (.bool l)).setCell ⟨w1.heap.size, t * 3 + 2, none⟩ (.int .u32 (o : Nat))) := by
  refine ⟨Below.setCell (Below.setCell (Below.setCell h.ext (p := ⟨w1.heap.size, t * 3, none⟩) (Nat.le_refl _) _) (p := ⟨w1.heap.size, t * 3 + 1, none⟩) (Nat.le_refl _) _) (p := ⟨w1.heap.size, t * 3 + 2, none⟩) (Nat.le_refl _) _, ?_, ownsRow_far (ownsRow_far (ownsRow_far h.own (by omega) _) (by omega) _) (by omega) _⟩
  have e1 := heap_setCell_same W w1.heap.size (t * 3) _ _ (.bool b) h.out
  have e2 := heap_setCell_same _ w1.heap.size (t * 3 + 1) _ _ (.bool l) e1
  have e3 := heap_setCell_same _ w1.heap.size (t * 3 + 2) _ _ (.int .u32 (o : Nat)) e2
  rw [e3, List.setIfInBounds_toArray, List.setIfInBounds_toArray, List.setIfInBounds_toArray, tn_set3 M t _ ht]
theorem MidR.next {g : Nat} (h : MidR w1 M P (some ⟨g, 0, none⟩) c W) (hg : w1.heap.size + 1 ≤ g) {r x y : Nat} (z : Nat) (hr : P[r]? = some (x, y)) : MidR w1 M (P.set r (x, z)) (some ⟨g, 0, none⟩) c (W.setCell ⟨g, r * 2 + 1, none⟩ (.int .i64 (z : Nat))) := by
  refine ⟨Below.setCell h.ext (p := ⟨g, r * 2 + 1, none⟩) (by show w1.heap.size ≤ g; omega) _, setO h.out (by omega) _, ?_⟩
  rw [List.length_set, pl_set1 P r x y z hr]
  exact (h.own.stored (r * 2 + 1) _).1
theorem MidR.grow {P' : List (Nat × Nat)} {a' : Option Addr} {c' : Nat} (h : MidR w1 M P a c W) (hg : W.grownBy W' (Value.slice a P.length c).ownBlock) (ho : W'.ownsRow (w1.heap.size + 1) 65 2 (.slice a' P'.length c') P'.length (rows plC P')) : MidR w1 M P' a' c' W' := by
  have hb : ∀ k, k < w1.heap.size + 1 → W'.heap[k]? = W.heap[k]? := fun k hk => hg.block k (by have := h.size; omega) (fun e => by
    have := (h.own.lt k e.symm).1
    omega)
  exact ⟨⟨hg.os.trans h.ext.os, hg.tape.trans h.ext.tape, hg.output.trans h.ext.output, Nat.le_trans h.ext.size hg.size, fun k hk => (hb k (by omega)).trans (h.ext.block k hk)⟩, (hb _ (by omega)).trans h.out, ho⟩
theorem MidR.keyKeep (h : MidR w1 M P a c W) {K : Nat} (hK : (Value.slice a P.length c).ownBlock ≠ some K) {o : Obj} (hk : W.heap[K]? = some o) (hg : W.grownBy W' (Value.slice a P.length c).ownBlock) : W'.heap[K]? = some o :=
  (hg.block K (blk_lt hk) (fun e => hK e.symm)).trans hk
theorem MidR.push (h : MidR w1 M P a c W) (hl : P.length ≤ 100000) (x y : Nat) : ∃ a' c' w', (Builtin.append_ #[62, 62] 62 #[.slice a P.length c, .slice (some ⟨W.heap.size, 0, none⟩) 1 1]).run Try.prog (W.alloc (.cells #[.int .u32 (x : Nat), .int .i64 (y : Nat)] 65)).drew = .ok (.slice a' (P.length + 1) c') w' ∧ MidR w1 M (P ++ [(x, y)]) a' c' w' ∧ (W.alloc (.cells #[.int .u32 (x : Nat), .int .i64 (y : Nat)] 65)).drew.grownBy w' (Value.slice a P.length c).ownBlock := by
  obtain ⟨i0, hi, hz0, hz1, hz2⟩ := info_parts infoPl
  have h2 : MidR w1 M P a c (W.alloc (.cells #[.int .u32 (x : Nat), .int .i64 (y : Nat)] 65)).drew := h.of_ext (Ext.drew1 (Ext.alloc (Below.refl _ _) _))
  have hnew := newblk W (.cells #[.int .u32 (x : Nat), .int .i64 (y : Nat)] 65)
  obtain ⟨v', w', q1, q2, q3, _, _⟩ := run_append_own_at (P := Try.prog) (W.alloc (.cells #[.int .u32 (x : Nat), .int .i64 (y : Nat)] 65)).drew (w1.heap.size + 1) 62 62 65 i0 (.agg #[.int .u32 0, .int .i64 0]) 2 16 Try.underlying62 hi hz0 hz1 hz2 rfl (by decide) (.slice a P.length c) P.length (rows plC P) h2.own
    ⟨W.heap.size, 0, none⟩ 1 1 [.int .u32 (x : Nat), .int .i64 (y : Nat)] rfl (fun j u hj => by
      rw [Addr.add_lit, Nat.zero_add]
      show (W.alloc (.cells #[.int .u32 (x : Nat), .int .i64 (y : Nat)] 65)).cell? _ = _
      rw [Lib.cell_of_heap hnew, ← Array.getElem?_toList]
      exact hj) (by intro u hu; simp at hu; rcases hu with rfl | rfl <;> rfl) (by unfold maxLen; omega) (by omega) h2.size
  obtain ⟨a', c', rfl⟩ := slice_form q2
  refine ⟨a', c', w', q1, h2.grow q3 ?_, q3⟩
  rw [List.length_append, rows_app]
  exact q2
end
end Go.Proofs.Ytbhfpofcebepiaa
