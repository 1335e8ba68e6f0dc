import Derived.Test.YtbhfpofcebepiaaBK
import Derived.Handy
/- The contract of belady.Next. -/
namespace Go.Proofs.Ytbhfpofcebepiaa
open Go.RowKit Go.Shelf Go.ChangeMaps
attribute [local go_sem] Oper.semAt_some
theorem Next_bad (a : Option Addr) (n c : Nat) (w : World) (h : 4096 < n) :
    Calls Try.prog 10 #[.slice a n c] w fun e w' => e = .returned (.tuple #[.slice none 0 0, .int .i64 5]) ∧ Ext w w' := by
  have c1 : Box (∀ w, Calls Try.prog 29 #[.slice a n c, .int .i64 4096, .int .i64 1] w fun e w' => e = .returned (.int .i64 5) ∧ w = w') := ⟨fun w => by
    have := allowed_any a n c 4096 1 w
    rw [show allB n 4096 1 = 5 by unfold allB; rw [if_pos (by omega)]] at this
    exact this⟩
  go_enter Try.func10, Try.ntmps10
  go_wp2_with (first | (go_at_call 29; (with_reducible refine (c1.out _).mono ?_); rintro e w' ⟨rfl, rfl⟩))
  go_ret2
  exact ⟨rfl, by go_grown⟩
/-- What lies in out where t requests are left. -/
def outL (L : List Nat) (t : Nat) : List Value := (List.range L.length).map fun j => if j < t then .int .i64 0 else .int .i64 (nxB L (keyB L j) (j + 1) : Nat)
/-- The last request of each key. -/
def lastB (L : List Nat) (t y : Nat) : Option Value := if nxB L y t < L.length then some (.int .i64 (nxB L y t : Nat)) else none
/-- Between two rounds. -/
structure NxI (a : Option Addr) (c : Nat) (L : List Nat) (w : World) (t : Nat) (W : World) : Prop where
  ext : Ext w W
  sz : w.heap.size + 1 + 1 + 1 + 1 + 1 + 1 ≤ W.heap.size
  sv : W.heap[w.heap.size]? = some (.cells #[.slice a L.length c] 22 (0, 0))
  row : W.heap[w.heap.size + 1]? = some (.cells (outL L t).toArray 3 (0, 0))
  ov : W.heap[w.heap.size + 1 + 1]? = some (.cells #[.slice (some ⟨w.heap.size + 1, 0, none⟩) L.length L.length] 24 (0, 0))
  mp : ∃ M, UAt W (w.heap.size + 1 + 1 + 1) M ∧ ∀ y, getU M y = lastB L t y
  mv : W.heap[w.heap.size + 1 + 1 + 1 + 1]? = some (.cells #[.map (some (w.heap.size + 1 + 1 + 1))] 56 (0, 0))
  bv : W.heap[w.heap.size + 1 + 1 + 1 + 1 + 1]? = some (.cells #[.slice a L.length c] 22 (0, 0))
theorem NxI.of {a : Option Addr} {c : Nat} {L : List Nat} {w : World} {t : Nat} {W W' : World} (h : NxI a c L w t W) (he : Ext w W') (hs : W.heap.size ≤ W'.heap.size) (hb : ∀ k, k < w.heap.size + 1 + 1 + 1 + 1 + 1 + 1 → W'.heap[k]? = W.heap[k]?) : NxI a c L w t W' := by
  obtain ⟨M, ⟨es, cl, hm1, hm2⟩, hm3⟩ := h.mp
  exact ⟨he, Nat.le_trans h.sz hs, (hb _ (by omega)).trans h.sv, (hb _ (by omega)).trans h.row, (hb _ (by omega)).trans h.ov, ⟨M, ⟨es, cl, (hb _ (by omega)).trans hm1, hm2⟩, hm3⟩, (hb _ (by omega)).trans h.mv, (hb _ (by omega)).trans h.bv⟩
theorem NxI.own {a : Option Addr} {c : Nat} {L : List Nat} {w : World} {t : Nat} {B : Nat} (hB : w.heap.size + 1 + 1 + 1 + 1 + 1 + 1 ≤ B) : OwnP B (NxI a c L w t) := by
  intro W W' row h hg hr
  have hb : ∀ k, k < w.heap.size + 1 + 1 + 1 + 1 + 1 + 1 → W'.heap[k]? = W.heap[k]? := fun k hk => hg.block k (by have := h.sz; omega) (fun e => by
    have := (hr k e.symm).1
    omega)
  exact h.of ⟨hg.os.trans h.ext.os, hg.tape.trans h.ext.tape, hg.output.trans h.ext.output, Nat.le_trans h.ext.size hg.size, fun k hk => (hb k (by omega)).trans (h.ext.block k hk)⟩ hg.size hb
theorem outL_len (L : List Nat) (t : Nat) : (outL L t).length = L.length := by simp [outL]
theorem outL_at (L : List Nat) (t j : Nat) (h : j < L.length) : (outL L t)[j]? = some (if j < t then .int .i64 0 else .int .i64 (nxB L (keyB L j) (j + 1) : Nat)) := by
  simp [outL, h]
theorem outL_set (L : List Nat) (t : Nat) (v : Value) (ht : t < L.length) : ((outL L (t + 1)).set t v).set t (.int .i64 (nxB L (keyB L t) (t + 1) : Nat)) = outL L t := by
  apply List.ext_getElem?
  intro j
  rw [List.set_set, List.getElem?_set, outL_len]
  by_cases hj : t = j
  · subst hj
    rw [if_pos rfl, if_pos ht, outL_at L t t ht, if_neg (by omega)]
  · rw [if_neg hj]
    by_cases hjl : j < L.length
    · rw [outL_at _ _ _ hjl, outL_at _ _ _ hjl]
      by_cases h1 : j < t
      · rw [if_pos h1, if_pos (by omega)]
      · rw [if_neg h1, if_neg (by omega)]
    · rw [List.getElem?_eq_none (by rw [outL_len]; omega), List.getElem?_eq_none (by rw [outL_len]; omega)]
theorem outL_set1 (L : List Nat) (t : Nat) (ht : t < L.length) (h : nxB L (keyB L t) (t + 1) = L.length) : (outL L (t + 1)).set t (.int .i64 (L.length : Nat)) = outL L t := by
  have := outL_set L t (.int .i64 (L.length : Nat)) ht
  rw [h, List.set_set] at this
  exact this
theorem outL_all (L : List Nat) : outL L L.length = List.replicate L.length (.int .i64 0) := by
  apply List.ext_getElem?
  intro j
  by_cases hj : j < L.length
  · rw [outL_at L L.length j hj, if_pos hj]; simp [hj]
  · rw [List.getElem?_eq_none (by rw [outL_len]; omega), List.getElem?_eq_none (by simp; omega)]
theorem outL_zero (L : List Nat) : outL L 0 = i64L (nextL L L.length) := by
  simp [outL, i64L, nextL]
theorem last_step (L : List Nat) (t y : Nat) (ht : t < L.length) : lastB L t y = if y = keyB L t then some (.int .i64 (t : Nat)) else lastB L (t + 1) y := by
  have hk : L[t]? = some (keyB L t) := by rw [List.getElem?_eq_getElem ht, keyB_get L t ht]
  unfold lastB
  by_cases e : y = keyB L t
  · subst e
    rw [if_pos rfl, nxB_here L _ t hk, if_pos ht]
  · rw [if_neg e, nxB_step L y _ t hk (fun h => e h.symm)]
theorem last_end (L : List Nat) (y : Nat) : lastB L L.length y = none := by
  unfold lastB
  rw [nxB_end L y _ (Nat.le_refl _), if_neg (Nat.lt_irrefl _)]
theorem NxI.step {a : Option Addr} {c : Nat} {L : List Nat} {w : World} {t : Nat} {W W1 : World} {o : Obj} {B : Nat} (h : NxI a c L w (t + 1) W) (ht : t < L.length) (hB : w.heap.size + 1 + 1 + 1 + 1 + 1 + 1 ≤ B) (hx : KeepsOthers W W1) (hk : ∀ k, k < W.heap.size → k ≠ w.heap.size + 1 → W1.heap[k]? = W.heap[k]?) (hos : W1.os = W.os ∧ W1.tape = W.tape ∧ W1.output = W.output)
    (hrow : W1.heap[w.heap.size + 1]? = some (.cells (outL L t).toArray 3 (0, 0))) {M : List (Nat × Value)} (hM : ∀ y, getU M y = lastB L (t + 1) y) (hM3 : UAt (setBlock W1 (w.heap.size + 1 + 1 + 1) o) (w.heap.size + 1 + 1 + 1) (putU M (keyB L t) (.int .i64 (t : Nat)))) :
    KeepsFrom B W (setBlock W1 (w.heap.size + 1 + 1 + 1) o) ∧ NxI a c L w t (setBlock W1 (w.heap.size + 1 + 1 + 1) o) := by
  have hsz := h.sz
  have sb : ∀ k, k ≠ w.heap.size + 1 + 1 + 1 → (setBlock W1 (w.heap.size + 1 + 1 + 1) o).heap[k]? = W1.heap[k]? := fun k hk => by
    show (W1.heap.setIfInBounds _ _)[k]? = _
    rw [Array.getElem?_setIfInBounds, if_neg (fun e => hk e.symm)]
  have hs1 : (setBlock W1 (w.heap.size + 1 + 1 + 1) o).heap.size = W1.heap.size := by show (W1.heap.setIfInBounds _ _).size = _; simp
  refine ⟨⟨by rw [hs1]; exact hx.size, fun k ob hb hk ho => (sb k (by omega)).trans (hx.same k ob hk ho)⟩, ⟨?_, by rw [hs1]; exact Nat.le_trans hsz hx.size, (sb _ (by omega)).trans ((hk _ (by omega) (by omega)).trans h.sv), (sb _ (by omega)).trans hrow, (sb _ (by omega)).trans ((hk _ (by omega) (by omega)).trans h.ov), ⟨_, hM3, fun y => ?_⟩, (sb _ (by omega)).trans ((hk _ (by omega) (by omega)).trans h.mv), (sb _ (by omega)).trans ((hk _ (by omega) (by omega)).trans h.bv)⟩⟩
  · exact ⟨hos.1.trans h.ext.os, hos.2.1.trans h.ext.tape, hos.2.2.trans h.ext.output, by rw [hs1]; exact Nat.le_trans h.ext.size hx.size, fun k hk2 => (sb k (by omega)).trans ((hk k (by omega) (by omega)).trans (h.ext.block k hk2))⟩
  · rw [get_put, hM y, last_step L t y ht]
theorem slc_call (a : Option Addr) (n c : Nat) (w : World) : Calls Try.prog 30 #[.slice a n c] w fun e w' => e = .returned (.func (.func 44) #[] #[.pointer (some ⟨w.heap.size, 0, none⟩)]) ∧ w.alloc (.cells #[.slice a n c] 22) = w' := by
  go_enter Try.func30, Try.ntmps30
  go_wp2
  go_ret
  exact ⟨rfl, rfl⟩
theorem make_int (n : Nat) (hn : n ≤ 200000) (w : World) : (Instr.makeSlice 24 (.int .i64 (n : Int)) (.int .i64 (n : Int))).run Try.prog w = .ok (.slice (some ⟨w.heap.size, 0, none⟩) n n) (w.alloc (.cells (List.replicate n (.int .i64 0)).toArray 3)) := by
  obtain ⟨i, hi, he⟩ := Option.map_eq_some_iff.1 infoI
  simp only [Prod.mk.injEq] at he
  obtain ⟨e1, e2, e3⟩ := he
  have h9 := run_makeSlice (P := Try.prog) (w := w) 24 3 i (.int .i64 0) Try.underlying24 hi e1 .i64 .i64 n n (by omega) (Int.le_refl _) (by rw [e2]; omega) (by rw [e3]; omega) (by omega)
  rw [e2] at h9
  simp only [Int.toNat_natCast, Nat.mul_one] at h9
  rw [h9]
  have : madeCells (Value.int .i64 0).cells n = (List.replicate n (.int .i64 0)).toArray := by
    apply Array.ext'
    show (madeCells #[.int .i64 0] n).toList = _
    rw [toList_madeCells_one]
    try rfl
    try simp
  rw [this]
set_option maxRecDepth 100000 in
set_option maxHeartbeats 4000000 in
theorem Next_ok (a : Option Addr) (c : Nat) (L : List Nat) (w : World) (hL : L.length ≤ 4096) (hC : CellsAt w a (u32L L)) :
    Calls Try.prog 10 #[.slice a L.length c] w fun e w' => ∃ a' c', e = .returned (.tuple #[.slice a' L.length c', .int .i64 0]) ∧ CellsAt w' a' (i64L (nextL L L.length)) ∧ Ext w w' := by
  refine (callsIn_wide (n := 9)).1 ?_
  refine callsIn_of_wp_marks Try.func10 rfl trivial ?_ rfl
  simp only [Try.ntmps10, List.size_toArray, List.length_cons, List.length_nil, Nat.reduceAdd, Nat.reduceSub, Array.replicate_succ, Array.replicate_zero, List.push_toArray, List.append_toArray, List.nil_append, List.cons_append]
  have hmm := @run_makeMap Try.prog
  have hmk := make_int L.length (by omega)
  have c1 : Box (∀ w, Calls Try.prog 29 #[.slice a L.length c, .int .i64 4096, .int .i64 1] w fun e w' => e = .returned (.int .i64 0) ∧ w = w') := ⟨fun w => by
    have := allowed_any a L.length c 4096 1 w
    rw [show allB L.length 4096 1 = 0 by unfold allB; rw [if_neg (by omega), if_neg (by omega)]] at this
    exact this⟩
  have cw : Box _ := ⟨fun w => slc_call a L.length c w⟩
  replace hC := Box.mk hC
  gi_wp2_with (first
    | (refine ⟨trivial, ?_⟩; gi_at_call 29; (with_reducible refine (callsIn_wide.2 (c1.out _)).mono ?_); rintro e w' ⟨rfl, rfl⟩)
    | (refine ⟨trivial, ?_⟩; gi_at_call 30; (with_reducible refine (callsIn_wide.2 (cw.out _)).mono ?_); rintro e w' ⟨rfl, rfl⟩))
  have hst : Box (NxI a c L w L.length ((((((w.alloc (.cells #[.slice a L.length c] 22)).alloc (.cells (List.replicate L.length (.int .i64 0)).toArray 3)).alloc (.cells #[.slice (some ⟨w.heap.size + 1, 0, none⟩) L.length L.length] 24)).alloc (.map #[] 0)).alloc (.cells #[.map (some (w.heap.size + 1 + 1 + 1))] 56)).alloc (.cells #[.slice a L.length c] 22))) := ⟨by
    have x1 : ∀ (W : World) (o : Obj), Ext W (W.alloc o) := fun W o => Ext.alloc (Below.refl _ _) _
    have n0 := newblk w (.cells #[.slice a L.length c] 22)
    have n1 := newblk (w.alloc (.cells #[.slice a L.length c] 22)) (.cells (List.replicate L.length (.int .i64 0)).toArray 3)
    have n2 := newblk ((w.alloc (.cells #[.slice a L.length c] 22)).alloc (.cells (List.replicate L.length (.int .i64 0)).toArray 3)) (.cells #[.slice (some ⟨w.heap.size + 1, 0, none⟩) L.length L.length] 24)
    have n3 := heap_alloc_new (((w.alloc (.cells #[.slice a L.length c] 22)).alloc (.cells (List.replicate L.length (.int .i64 0)).toArray 3)).alloc (.cells #[.slice (some ⟨w.heap.size + 1, 0, none⟩) L.length L.length] 24)) (.map #[] 0)
    have n4 := newblk ((((w.alloc (.cells #[.slice a L.length c] 22)).alloc (.cells (List.replicate L.length (.int .i64 0)).toArray 3)).alloc (.cells #[.slice (some ⟨w.heap.size + 1, 0, none⟩) L.length L.length] 24)).alloc (.map #[] 0)) (.cells #[.map (some (w.heap.size + 1 + 1 + 1))] 56)
    have n5 := newblk (((((w.alloc (.cells #[.slice a L.length c] 22)).alloc (.cells (List.replicate L.length (.int .i64 0)).toArray 3)).alloc (.cells #[.slice (some ⟨w.heap.size + 1, 0, none⟩) L.length L.length] 24)).alloc (.map #[] 0)).alloc (.cells #[.map (some (w.heap.size + 1 + 1 + 1))] 56)) (.cells #[.slice a L.length c] 22)
    simp only [World.size_alloc] at n1 n2 n3 n4 n5
    refine ⟨Ext.trans' (x1 _ _) (Ext.trans' (x1 _ _) (Ext.trans' (x1 _ _) (Ext.trans' (x1 _ _) (Ext.trans' (x1 _ _) (x1 _ _))))), by simp, Ext.blk (x1 _ _) (Ext.blk (x1 _ _) (Ext.blk (x1 _ _) (Ext.blk (x1 _ _) (Ext.blk (x1 _ _) n0)))), ?_, Ext.blk (x1 _ _) (Ext.blk (x1 _ _) (Ext.blk (x1 _ _) n2)), ⟨[], ⟨#[], 0, ?_, rfl⟩, fun y => ?_⟩, Ext.blk (x1 _ _) n4, n5⟩
    · rw [outL_all]
      exact Ext.blk (x1 _ _) (Ext.blk (x1 _ _) (Ext.blk (x1 _ _) (Ext.blk (x1 _ _) n1)))
    · exact ((Ext.trans' (x1 _ _) (x1 _ _) : Ext ((((w.alloc _).alloc _).alloc _).alloc _) _).block _ (by simp)).trans n3
    · rw [last_end]; rfl⟩
  have hsz : ((((((w.alloc (.cells #[.slice a L.length c] 22)).alloc (.cells (List.replicate L.length (.int .i64 0)).toArray 3)).alloc (.cells #[.slice (some ⟨w.heap.size + 1, 0, none⟩) L.length L.length] 24)).alloc (.map #[] 0)).alloc (.cells #[.map (some (w.heap.size + 1 + 1 + 1))] 56)).alloc (.cells #[.slice a L.length c] 22)).heap.size = w.heap.size + 1 + 1 + 1 + 1 + 1 + 1 := by simp
  rw [List.toArray_replicate] at hst hsz
  have hst2 := hst.out
  generalize ((((((w.alloc (.cells #[.slice a L.length c] 22)).alloc (.cells (Array.replicate L.length (.int .i64 0)) 3)).alloc (.cells #[.slice (some ⟨w.heap.size + 1, 0, none⟩) L.length L.length] 24)).alloc (.map #[] 0)).alloc (.cells #[.map (some (w.heap.size + 1 + 1 + 1))] 56)).alloc (.cells #[.slice a L.length c] 22)) = W0 at *
  refine range_back rfl (by decide) (gf := 44) (lb := #[.pointer (some ⟨w.heap.size + 1 + 1 + 1 + 1 + 1, 0, none⟩)]) (b := w.heap.size + 1 + 1 + 1 + 1 + 1) rfl trivial (fun args w => Try.call44 args w) (back_iter _ _ c a L (by decide) (by omega)) rfl
    (NxI a c L w) (fun t => NxI.own (by omega)) (fun t W h => ⟨by rw [Lib.cell_of_heap h.bv]; rfl, CellsAt.keep h.ext hC.out⟩) hst2 ?a1 ?assign ?body ?done
  case assign =>
    intro lp t W K hK
    gi_wp2
    exact hK
  case body =>
    intro lp t W ht hI
    have e0 : (outL L (t + 1))[t]? = some (.int .i64 0) := by rw [outL_at L _ t ht, if_pos (by omega)]
    obtain ⟨m0, -⟩ := cells1 hI.sv
    obtain ⟨m2, -⟩ := cells1 hI.ov
    obtain ⟨m4, -⟩ := cells1 hI.mv
    have m1 : W.cell? ⟨w.heap.size + 1, t, none⟩ = some (.int .i64 0) := by
      rw [Lib.cell_of_heap hI.row, ← Array.getElem?_toList]
      exact e0
    have f1 : W.frozen? ⟨w.heap.size + 1, t, none⟩ = false := Lib.frozen_of_heap hI.row t
    have t0 : (0 : Int) ≤ (t : Int) := by omega
    have t1 : (t : Int) < (L.length : Int) := by omega
    obtain ⟨M, hM, hg⟩ := hI.mp
    have hne3 : w.heap.size + 1 + 1 + 1 ≠ w.heap.size + 1 := by omega
    have hM1 := hM.setO (k := t) hne3 (.int .i64 (L.length : Nat))
    have hlk := uLook2 (T := 56) Try.underlying56 zeroInt2 hM1 (keyB L t)
    rw [hg] at hlk
    have hkn : nxB L (keyB L t) (t + 1) ≤ L.length := nxB_le L _ _ (by omega)
    have hrow1 := heap_setCell_same W (w.heap.size + 1) t _ _ (.int .i64 (L.length : Nat)) hI.row
    by_cases hfound : nxB L (keyB L t) (t + 1) < L.length
    · have hl : lastB L (t + 1) (keyB L t) = some (.int .i64 (nxB L (keyB L t) (t + 1) : Nat)) := by unfold lastB; rw [if_pos hfound]
      rw [hl] at hlk
      obtain ⟨o, hput, hM3⟩ := uPut (T := 56) Try.underlying56 (hM1.setO (k := t) hne3 (.int .i64 (nxB L (keyB L t) (t + 1) : Nat))) (keyB L t) (.int .i64 (t : Nat))
      have hrow2 := heap_setCell_same _ (w.heap.size + 1) t _ _ (.int .i64 (nxB L (keyB L t) (t + 1) : Nat)) hrow1
      have hfin : Box (KeepsFrom W0.heap.size W (setBlock ((W.setCell ⟨w.heap.size + 1, t, none⟩ (.int .i64 (L.length : Nat))).setCell ⟨w.heap.size + 1, t, none⟩ (.int .i64 (nxB L (keyB L t) (t + 1) : Nat))) (w.heap.size + 1 + 1 + 1) o) ∧ NxI a c L w t (setBlock ((W.setCell ⟨w.heap.size + 1, t, none⟩ (.int .i64 (L.length : Nat))).setCell ⟨w.heap.size + 1, t, none⟩ (.int .i64 (nxB L (keyB L t) (t + 1) : Nat))) (w.heap.size + 1 + 1 + 1) o)) := ⟨hI.step ht (by omega) ((KeepsOthers.setCell _ _ _).trans (KeepsOthers.setCell _ _ _)) (fun k _ hk => (heap_setCell_other _ ⟨w.heap.size + 1, t, none⟩ k _ hk).trans (heap_setCell_other _ ⟨w.heap.size + 1, t, none⟩ k _ hk)) ⟨rfl, rfl, rfl⟩ (by rw [hrow2, List.setIfInBounds_toArray, List.setIfInBounds_toArray, outL_set L t _ ht]) hg hM3⟩
      simp only [Option.getD_some, Option.isSome_some] at hlk
      replace hI := Box.mk hI
      replace hg := Box.mk hg
      clear hM hM1 hM3 hrow1 hrow2 hl hfound hkn
      generalize nxB L (keyB L t) (t + 1) = v at *
      generalize keyB L t = x at *
      gi_wp2
      exact hfin.out
    · have he : nxB L (keyB L t) (t + 1) = L.length := by omega
      have hl : lastB L (t + 1) (keyB L t) = none := by unfold lastB; rw [if_neg hfound]
      rw [hl] at hlk
      obtain ⟨o, hput, hM3⟩ := uPut (T := 56) Try.underlying56 hM1 (keyB L t) (.int .i64 (t : Nat))
      have hfin : Box (KeepsFrom W0.heap.size W (setBlock (W.setCell ⟨w.heap.size + 1, t, none⟩ (.int .i64 (L.length : Nat))) (w.heap.size + 1 + 1 + 1) o) ∧ NxI a c L w t (setBlock (W.setCell ⟨w.heap.size + 1, t, none⟩ (.int .i64 (L.length : Nat))) (w.heap.size + 1 + 1 + 1) o)) := ⟨hI.step ht (by omega) (KeepsOthers.setCell _ _ _) (fun k _ hk => heap_setCell_other _ ⟨w.heap.size + 1, t, none⟩ k _ hk) ⟨rfl, rfl, rfl⟩ (by rw [hrow1, List.setIfInBounds_toArray, outL_set1 L t ht he]) hg hM3⟩
      simp only [Option.getD_none, Option.isSome_none] at hlk
      replace hI := Box.mk hI
      replace hg := Box.mk hg
      clear hM hM1 hM3 hrow1 hl hfound hkn he
      generalize keyB L t = x at *
      gi_wp2
      exact hfin.out
  case done =>
    intro D W hDl hI hD
    obtain ⟨m2, -⟩ := cells1 hI.ov
    replace hI := Box.mk hI
    replace hD := Box.mk hD
    gi_wp2
    refine ⟨by simp, .inl ⟨_, _, rfl, run_takeDeferred hD.out, ?_⟩⟩
    have hI2 : NxI a c L w 0 (W.putObj D (.deferred none)) := (NxI.own (B := W0.heap.size) (by omega)).putObj (.deferred none) hI.out hDl hD.out rfl
    refine ⟨.tuple #[.slice (some ⟨w.heap.size + 1, 0, none⟩) L.length L.length, .int .i64 0], ?_, some ⟨w.heap.size + 1, 0, none⟩, L.length, rfl, ?_, hI2.ext⟩
    · simp [results, Try.f10, go_sem]
    · rw [← outL_zero]
      intro j u hj
      refine ⟨w.heap.size + 1, 0, rfl, ?_⟩
      rw [Nat.zero_add, Lib.cell_of_heap hI2.row, ← Array.getElem?_toList]
      exact hj
end Go.Proofs.Ytbhfpofcebepiaa
