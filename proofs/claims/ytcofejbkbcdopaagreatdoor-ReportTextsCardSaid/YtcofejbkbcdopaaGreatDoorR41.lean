import Derived.Test.YtcofejbkbcdopaaGreatDoorR40
import Derived.Lib.IndexBytes
import Derived.Shelf.Strings.Split
/- Contracts: strings.Split at a line's end, and the report's ReadRun at every string. -/
namespace Go.Proofs.YtcofejbkbcdopaaGreatDoor
open Go.RowKit
def lfB : ByteArray := ⟨#[10]⟩
/-- The lines of a text. -/
def pcs (s : ByteArray) : List ByteArray := Lib.splitB lfB 0 (Lib.countB s lfB) s
theorem pcs_len (s : ByteArray) : (pcs s).length = Lib.countB s lfB + 1 := Lib.splitB_all lfB (by decide) 0 _ s rfl
theorem pcs_data (s : ByteArray) : (pcs s).map (·.data.toList) = Lib.split s.data.toList [10] := by
  unfold pcs
  rw [Lib.splitB_data]; rfl
theorem splitB_size (sep : ByteArray) (save : Nat) : ∀ (k : Nat) (s R : ByteArray), R ∈ Lib.splitB sep save k s → R.size ≤ s.size
  | 0, s, R, h => by
    rw [Lib.splitB_zero] at h
    simp only [List.mem_singleton] at h
    rw [h]; exact Nat.le_refl _
  | k + 1, s, R, h => by
    unfold Lib.splitB at h
    split at h
    · simp only [List.mem_singleton] at h
      rw [h]; exact Nat.le_refl _
    · rcases List.mem_cons.1 h with rfl | h
      · rw [ByteArray.size_extract]; omega
      · have := splitB_size sep save k _ R h
        rw [ByteArray.size_extract] at this
        omega
theorem pcs_size (s : ByteArray) (j : Nat) (h : j < (pcs s).length) : ((pcs s)[j]).size ≤ s.size := splitB_size _ _ _ s _ (List.getElem_mem h)
theorem readR_pcs (s : ByteArray) (t : Nat) : readR s.data.toList t = if h : t + 1 < (pcs s).length then valL ((pcs s)[t + 1]).data.toList else 0 := by
  unfold readR
  rw [← pcs_data, List.length_map]
  by_cases h : t + 1 < (pcs s).length
  · rw [if_pos h, dif_pos h, List.getD_eq_getElem?_getD, List.getElem?_map, List.getElem?_eq_getElem h]
    rfl
  · rw [if_neg h, dif_neg h]
theorem readR_le (l : List UInt8) (i : Nat) : readR l i ≤ 9223372036854775807 := by
  unfold readR
  split
  · unfold valL
    split
    · rename_i v hv
      exact (Lib.atoiAll_bounds hv).2
    · decide
  · decide
set_option maxRecDepth 100000 in
set_option maxHeartbeats 4000000 in
theorem gensplit_any (s : ByteArray) (hs : s.size ≤ 1000000) (w : World) : Calls Tryz.prog 35 #[.string s, .string ⟨#[10]⟩, .int .i64 0, .int .i64 (-1)] w fun e w' =>
    e = .returned (.slice (some ⟨w.heap.size, 0, none⟩) (pcs s).length (pcs s).length) ∧ w' = w.alloc (.cells ((pcs s).map Value.string).toArray 9) := by
  have hl := pcs_len s
  have hI : ∀ (x : ByteArray) (c : Array Value), x.size ≤ s.size → Calls Tryz.prog 51 #[.string x, .string lfB] (w.alloc (.cells c 9)) fun e w' => e = .returned (.int .i64 (Lib.indexB x lfB)) ∧ w' = w.alloc (.cells c 9) := fun x c _ => by
    have := Tryz.strings_Index_one x 10 (w.alloc (.cells c 9))
    rw [← Lib.index_one] at this
    exact this
  have hC : Calls Tryz.prog 50 #[.string s, .string lfB] w fun e w' => e = .returned (.int .i64 (Lib.countB s lfB)) ∧ w' = w := by
    have := Tryz.strings_Count_one s 10 w
    rw [show Lib.countByte s.data.toList 10 = Lib.countB s lfB from (Lib.count_one 10 s.data.toList).symm] at this
    exact this
  have := Any.strings_genSplit_core Tryz.lays221 (by kernel_rfl) s lfB 0 (-1) (Lib.countB s lfB + 1) w (by omega) (by decide) (by decide) hI hC (by decide) (by decide) (by
    have hle := Lib.countB_le lfB (by decide) s.size s (Nat.le_refl _)
    rw [if_pos (by decide)]; omega)
  rw [Nat.add_sub_cancel] at this
  have e2 : Lib.cellsOf (pcs s) (Lib.countB s lfB + 1) = ((pcs s).map Value.string).toArray := by rw [← hl]; exact Lib.cellsOf_full _
  have e3 : Lib.splitB lfB 0 (Lib.countB s lfB) s = pcs s := rfl
  rw [e3, e2, ← hl] at this
  exact this
set_option maxRecDepth 100000 in
set_option maxHeartbeats 4000000 in
theorem split_any (s : ByteArray) (hs : s.size ≤ 1000000) (w : World) : Calls Tryz.prog 25 #[.string s, .string ⟨#[10]⟩] w fun e w' =>
    e = .returned (.slice (some ⟨w.heap.size, 0, none⟩) (pcs s).length (pcs s).length) ∧ (∀ j (h : j < (pcs s).length), w'.cell? ⟨w.heap.size, j, none⟩ = some (.string (pcs s)[j])) ∧ Ext w w' := by
  have c := Box.mk (gensplit_any s hs w)
  have hc : Box (∀ j (h : j < (pcs s).length), (w.alloc (.cells ((pcs s).map Value.string).toArray 9)).cell? ⟨w.heap.size, j, none⟩ = some (.string (pcs s)[j])) := ⟨fun j h => by
    rw [World.cell?_alloc_new]
    simp [h]⟩
  go_enter Tryz.func25, Tryz.ntmps25
  go_wp2_with (go_at_call 35; (with_reducible refine c.out.mono ?_); rintro e w1 ⟨rfl, rfl⟩)
  go_ret
  exact ⟨rfl, hc.out, Ext.alloc (Below.refl _ _) _⟩
/-- The numbers that have been read so far. -/
def gK (f : Nat → Int) (t i : Nat) : Int := if i < t then f i else 0
theorem gK_put (f : Nat → Int) (t : Nat) : ∀ i, i < 12 → upR (gK f t) t (f t) i = gK f (t + 1) i := fun i _ => by
  unfold upR gK
  by_cases h : i = t
  · subst h
    rw [if_pos rfl, if_pos (by omega)]
  · rw [if_neg h]
    by_cases h2 : i < t
    · rw [if_pos h2, if_pos (by omega)]
    · rw [if_neg h2, if_neg (by omega)]
theorem gK_stay (f : Nat → Int) (t : Nat) (h0 : f t = 0) : ∀ i, i < 12 → gK f t i = gK f (t + 1) i := fun i _ => by
  unfold gK
  by_cases h : i < t
  · rw [if_pos h, if_pos (by omega)]
  · rw [if_neg h]
    by_cases h2 : i = t
    · rw [if_pos (by omega), h2, h0]
    · rw [if_neg (by omega)]
theorem Ext.setRow1 {w0 w : World} (h : Ext w0 w) {g : Nat} (hg : w0.heap.size ≤ g) (c : Array Value) : Ext w0 (w.setRow g c) :=
  ⟨h.os, h.tape, h.output, by have := h.size; simp [World.setRow]; exact this, fun k hk => by
    rw [← h.block k hk]
    unfold World.setRow
    rw [Array.getElem?_modify, if_neg (by omega)]⟩
/-- A whole store into a block. -/
theorem wpList_store_row1 {P : Program} {ops : Array Oper} {rest : List Oper} {o : Oper} {a : Act} {Q : Exit → Act → World → Prop} {w : World} (hgd : o.guard = none) (ty : TypeId) (x y : Operand) (ho : o.op = .store ty x y)
    (g : Nat) (cs : Array Value) (hx : a.eval x = .pointer (some ⟨g, 0, none⟩)) (hy : a.eval y = .agg cs) (t : TypeId) (old : Array Value) (hg : w.heap[g]? = some (.cells old t (0, 0))) (hi : (P.info? ty).map (·.size) = some cs.size) (hz : old.size = cs.size) (h1 : cs.all (·.oneCell') = true)
    (h : wpList P ops Q rest (a.put o.dst undef) (w.setRow g cs)) : wpList P ops Q (o :: rest) a w :=
  wpList_plain hgd fun _ hK => wp_store_row ty x y ho g cs hx hy t old hg hi hz h1 (hK _ _ h)
/-- What ReadRun answers. -/
def RrP (l : List UInt8) (w : World) (e : Ending) (w' : World) : Prop :=
  ((fitR l ∧ e = .returned (.tuple #[(.agg #[.int .i64 (readR l 0), .int .i64 (readR l 1), .int .i64 (readR l 2), .int .i64 (readR l 3), .int .i64 (readR l 4), .int .i64 (readR l 5), .int .i64 (readR l 6), .int .i64 (readR l 7), .int .i64 (readR l 8), .int .i64 (readR l 9), .int .i64 (readR l 10), .int .i64 (readR l 11)]), .int .i64 0])) ∨ (¬ fitR l ∧ e = .returned (.tuple #[.agg #[.int .i64 0, .int .i64 0, .int .i64 0, .int .i64 0, .int .i64 0, .int .i64 0, .int .i64 0, .int .i64 0, .int .i64 0, .int .i64 0, .int .i64 0, .int .i64 0], .int .i64 6]))) ∧ Ext w w'
set_option maxRecDepth 100000 in
set_option maxHeartbeats 8000000 in
theorem readrun_any (s : ByteArray) (hs : s.size ≤ 1000000) (w : World) (hw : EnvV w) : Calls Tryz.prog 8 #[.string s] w (RrP s.data.toList w) := by
  have hE : Box (∀ w', Ext w w' → EnvV w') := ⟨fun w' h => hw.ext h⟩
  obtain ⟨Post, hP⟩ : ∃ P, P = RrP s.data.toList w := ⟨_, rfl⟩
  rw [← hP]
  replace hP := Box.mk hP
  obtain ⟨dC, huC, hdC⟩ := und_row rowRC
  have cS : Box _ := ⟨fun w1 => split_any s hs w1⟩
  have cn : Box _ := ⟨fun w1 => numbers_any (w.heap.size + 1) w1⟩
  have hx0 : Ext w ((w.alloc (.cells #[.int .i64 0, .int .i64 0, .int .i64 0, .int .i64 0, .int .i64 0, .int .i64 0, .int .i64 0, .int .i64 0, .int .i64 0, .int .i64 0, .int .i64 0, .int .i64 0] 24)).alloc (.cells #[.int .i64 0, .int .i64 0, .int .i64 0, .int .i64 0, .int .i64 0, .int .i64 0, .int .i64 0, .int .i64 0, .int .i64 0, .int .i64 0, .int .i64 0, .int .i64 0] 24)) := Ext.alloc (Ext.alloc (Below.refl _ _) _) _
  have hR0 : ((w.alloc (.cells #[.int .i64 0, .int .i64 0, .int .i64 0, .int .i64 0, .int .i64 0, .int .i64 0, .int .i64 0, .int .i64 0, .int .i64 0, .int .i64 0, .int .i64 0, .int .i64 0] 24)).alloc (.cells #[.int .i64 0, .int .i64 0, .int .i64 0, .int .i64 0, .int .i64 0, .int .i64 0, .int .i64 0, .int .i64 0, .int .i64 0, .int .i64 0, .int .i64 0, .int .i64 0] 24)).heap[w.heap.size]? = some (.cells #[.int .i64 0, .int .i64 0, .int .i64 0, .int .i64 0, .int .i64 0, .int .i64 0, .int .i64 0, .int .i64 0, .int .i64 0, .int .i64 0, .int .i64 0, .int .i64 0] 24 (0, 0)) := Ext.blk (Ext.alloc (Below.refl _ _) _) (newblk _ _)
  have hC0 : RcAt (w.heap.size + 1) (gK (readR s.data.toList) 0) ((w.alloc (.cells #[.int .i64 0, .int .i64 0, .int .i64 0, .int .i64 0, .int .i64 0, .int .i64 0, .int .i64 0, .int .i64 0, .int .i64 0, .int .i64 0, .int .i64 0, .int .i64 0] 24)).alloc (.cells #[.int .i64 0, .int .i64 0, .int .i64 0, .int .i64 0, .int .i64 0, .int .i64 0, .int .i64 0, .int .i64 0, .int .i64 0, .int .i64 0, .int .i64 0, .int .i64 0] 24)) := by
    unfold RcAt
    have h1 := newblk (w.alloc (.cells #[.int .i64 0, .int .i64 0, .int .i64 0, .int .i64 0, .int .i64 0, .int .i64 0, .int .i64 0, .int .i64 0, .int .i64 0, .int .i64 0, .int .i64 0, .int .i64 0] 24)) (.cells #[.int .i64 0, .int .i64 0, .int .i64 0, .int .i64 0, .int .i64 0, .int .i64 0, .int .i64 0, .int .i64 0, .int .i64 0, .int .i64 0, .int .i64 0, .int .i64 0] 24)
    rw [World.size_alloc] at h1
    rw [rC_congr (g := fun _ => 0) (fun i _ => by unfold gK; rw [if_neg (by omega)])]
    exact h1
  replace hx0 := Box.mk hx0
  replace hR0 := Box.mk hR0
  replace hC0 := Box.mk hC0
  have hle : Box (∀ i, i < 12 → readR s.data.toList i ≤ 9223372036854775807) := ⟨fun i _ => readR_le _ i⟩
  have hrd := Box.mk (readR_pcs s)
  have hpz := Box.mk (pcs_size s)
  have hpl : (pcs s).length ≤ 1000001 := by
    rw [pcs_len]
    have := Lib.countB_le lfB (by decide) s.size s (Nat.le_refl _)
    omega
  have hp0 : 0 < (pcs s).length := by rw [pcs_len]; omega
  have hfit : Box (fitR s.data.toList ↔ okR (readR s.data.toList) ∧ txtR (natF (readR s.data.toList)) = s.data.toList) := ⟨Iff.rfl⟩
  clear hw
  generalize pcs s = P at *
  have hRR : Box (RrP s.data.toList w = fun e w' => ((fitR s.data.toList ∧ e = .returned (.tuple #[(.agg #[.int .i64 (readR s.data.toList 0), .int .i64 (readR s.data.toList 1), .int .i64 (readR s.data.toList 2), .int .i64 (readR s.data.toList 3), .int .i64 (readR s.data.toList 4), .int .i64 (readR s.data.toList 5), .int .i64 (readR s.data.toList 6), .int .i64 (readR s.data.toList 7), .int .i64 (readR s.data.toList 8), .int .i64 (readR s.data.toList 9), .int .i64 (readR s.data.toList 10), .int .i64 (readR s.data.toList 11)]), .int .i64 0])) ∨ (¬ fitR s.data.toList ∧ e = .returned (.tuple #[.agg #[.int .i64 0, .int .i64 0, .int .i64 0, .int .i64 0, .int .i64 0, .int .i64 0, .int .i64 0, .int .i64 0, .int .i64 0, .int .i64 0, .int .i64 0, .int .i64 0], .int .i64 6]))) ∧ Ext w w') := ⟨rfl⟩
  generalize readR s.data.toList = f at *
  generalize fitR s.data.toList = F at *
  obtain ⟨n, hPL⟩ : ∃ n, n = P.length := ⟨_, rfl⟩
  have cS2 : Box (∀ w1, Calls Tryz.prog 25 #[.string s, .string ⟨#[10]⟩] w1 fun e w' => e = .returned (.slice (some ⟨w1.heap.size, 0, none⟩) n n) ∧ (∀ j (h : j < P.length), w'.cell? ⟨w1.heap.size, j, none⟩ = some (.string P[j])) ∧ Ext w1 w') := ⟨fun w1 => by rw [hPL]; exact cS.out w1⟩
  rw [← hPL] at hpl hp0
  replace hPL := Box.mk hPL
  clear cS
  go_enter Tryz.func8, Tryz.ntmps8
  go_wp2_with (first
    | (go_at_call 25; (with_reducible refine (cS2.out _).mono ?_); rintro e w1 ⟨rfl, hps, hb⟩; have hps := Box.mk hps; have hA : Box (w.heap.size + 1 < ((w.alloc (.cells #[.int .i64 0, .int .i64 0, .int .i64 0, .int .i64 0, .int .i64 0, .int .i64 0, .int .i64 0, .int .i64 0, .int .i64 0, .int .i64 0, .int .i64 0, .int .i64 0] 24)).alloc (.cells #[.int .i64 0, .int .i64 0, .int .i64 0, .int .i64 0, .int .i64 0, .int .i64 0, .int .i64 0, .int .i64 0, .int .i64 0, .int .i64 0, .int .i64 0, .int .i64 0] 24)).heap.size) := ⟨by simp⟩; have hx1 := Box.mk (Ext.trans' hx0.out hb); have hR1 := Box.mk (Ext.blk hb hR0.out); have hC1 := Box.mk (RcAt.ext hC0.out hb); clear hb)
    | (go_at_call 18; (with_reducible refine (cn.out _).mono ?_); rintro e w2 ⟨v, rfl, ⟨g, cap, cur, rfl, hg, hcur⟩, hb2⟩; have hps2 := Box.mk (fun j h => Ext.cell hb2 (hps.out j h)); replace hx1 := Box.mk (Ext.trans' hx1.out hb2); replace hR1 := Box.mk (Ext.blk hb2 hR1.out); replace hC1 := Box.mk (RcAt.ext hC1.out hb2); replace hg := Box.mk hg; replace hcur := Box.mk hcur; clear hb2))
  clear hps hx0 hR0 hC0 cS2 cn
  simp only [World.size_alloc] at hps2 hA
  generalize w.heap.size + 1 + 1 = A at *
  have hgC : Box (g ≠ w.heap.size + 1) := ⟨fun e => by
    have h1 := hg.out
    have h2 : w2.heap[w.heap.size + 1]? = _ := hC1.out
    rw [e, h2] at h1
    simp at h1⟩
  go_loopw [6, 7, 14] (fun _ _ i wr => ∃ t : Nat, t ≤ 12 ∧ i = .int .i64 (t : Int) ∧ Box (RcAt (w.heap.size + 1) (gK f t) wr) ∧ Box (wr.heap[w.heap.size]? = some (.cells #[.int .i64 0, .int .i64 0, .int .i64 0, .int .i64 0, .int .i64 0, .int .i64 0, .int .i64 0, .int .i64 0, .int .i64 0, .int .i64 0, .int .i64 0, .int .i64 0] 24 (0, 0))) ∧ Box (wr.heap[g]? = some (.cells cur 66 (0, 0))) ∧ Box (∀ j (h : j < P.length), wr.cell? ⟨A, j, none⟩ = some (.string P[j])) ∧ Box (Ext w wr)) (fun _ _ i _ => 12 - (intOf i).toNat)
  case atStart => exact ⟨0, by omega, rfl, hC1, hR1, hg, hps2, hx1⟩
  case round =>
    clear hC1 hR1 hg hps2 hx1
    obtain ⟨t, ht, rfl, hC, hR, hg, hps, hx⟩ := hrel
    by_cases h12 : t < 12
    · have d1 : decide ((t : Int) < 12) = true := decide_eq_true (by omega)
      have d2 : (t : Int) < 12 := by omega
      have l1 : wr.cell? ⟨g, t, none⟩ = some (.pointer (some ⟨w.heap.size + 1, t, none⟩)) := by rw [Lib.cell_of_heap hg.out]; exact hcur.out t h12
      have hw1 : IntKind.i64.wrap ((t : Int) + 1) = (t : Int) + 1 := by rw [IntKind.wrap_i64]; omega
      by_cases hl : t + 1 < n
      · as_aux_lemma =>
        have d3 : decide ((t : Int) + 1 < (n : Int)) = true := decide_eq_true (by omega)
        have d4 : (t : Int) + 1 < (n : Int) := by omega
        have d5 : (0 : Int) ≤ (t : Int) + 1 := by omega
        have d6 : ((t : Int) + 1).toNat = t + 1 := by omega
        have hlP : t + 1 < P.length := by rw [← hPL.out]; exact hl
        have l3 := hps.out (t + 1) hlP
        have hz := hpz.out (t + 1) hlP
        have hv : Box (valL (P[t + 1]).data.toList = f t) := ⟨by rw [hrd.out t, dif_pos hlP]⟩
        have cv : Box (∀ w', Ext w w' → _) := ⟨fun w' h => value_any (P[t + 1]) (by omega) w' (hE.out w' h).env⟩
        rw [hv.out] at cv
        generalize P[t + 1] = p at *
        have hkk : Box (∀ i, i < 12 → upR (gK f t) t (f t) i = gK f (t + 1) i) := ⟨gK_put f t⟩
        clear hv hz hlP hl
        go_wp2_with (go_at_call 26; (with_reducible refine (cv.out _ hx.out).mono ?_); rintro e w3 ⟨rfl, hb⟩; have c3 := RcAt.cell (RcAt.ext hC.out hb) t h12; have f3 := RcAt.froz (RcAt.ext hC.out hb) t; have hC3 := Box.mk ((RcAt.put (RcAt.ext hC.out hb) t h12 (f t)).congr hkk.out); have hR3 := Box.mk ((heap_setCell_other w3 ⟨w.heap.size + 1, t, none⟩ w.heap.size (.int .i64 (f t)) (by show w.heap.size ≠ w.heap.size + 1; omega)).trans (Ext.blk hb hR.out)); have hg3 := Box.mk ((heap_setCell_other w3 ⟨w.heap.size + 1, t, none⟩ g (.int .i64 (f t)) hgC.out).trans (Ext.blk hb hg.out)); have hps3 : Box (∀ j (h : j < P.length), (w3.setCell ⟨w.heap.size + 1, t, none⟩ (.int .i64 (f t))).cell? ⟨A, j, none⟩ = some (.string P[j])) := Box.mk (fun j h => by rw [World.cell?_setCell_far _ _ _ _ (by have := hA.out; show w.heap.size + 1 ≠ A; omega)]; exact Ext.cell hb (hps.out j h)); have hx3 := Box.mk (Ext.put (Ext.trans' hx.out hb) (B := w.heap.size + 1) (by omega) t (.int .i64 (f t))))
        go_roundw
        case rel => exact ⟨t + 1, by omega, by go_num, hC3, hR3, hg3, hps3, hx3⟩
        case measure =>
          clear hw1
          simp [intOf]; omega
      · as_aux_lemma =>
        have d3 : decide ((t : Int) + 1 < (n : Int)) = false := decide_eq_false (by omega)
        have d4 : (n : Int) ≤ (t : Int) + 1 := by omega
        have hv : f t = 0 := by rw [hrd.out t, dif_neg (by rw [← hPL.out]; exact hl)]
        have hC3 := Box.mk (hC.out.congr (gK_stay f t hv))
        clear hv hl
        go_wp2
        go_roundw
        case rel => exact ⟨t + 1, by omega, by go_num, hC3, hR, hg, hps, hx⟩
        case measure =>
          clear hw1
          simp [intOf]; omega
    · as_aux_lemma =>
      obtain rfl : t = 12 := by omega
      have hCf : RcAt (w.heap.size + 1) f wr := hC.out.congr (fun i hi => by unfold gK; rw [if_pos hi])
      replace hC := Box.mk hCf
      have hrC := Box.mk (rc_range hCf)
      clear hg hps hCf hgC hcur
      have key : (F ∧ okR f ∧ txtR (natF f) = s.data.toList) ∨ (¬ F ∧ (okR f ∧ txtR (natF f) ≠ s.data.toList ∨ ¬ okR f)) := by
        by_cases h : okR f
        · by_cases h2 : txtR (natF f) = s.data.toList
          · exact Or.inl ⟨hfit.out.2 ⟨h, h2⟩, h, h2⟩
          · exact Or.inr ⟨fun hF => h2 (hfit.out.1 hF).2, Or.inl ⟨h, h2⟩⟩
        · exact Or.inr ⟨fun hF => h (hfit.out.1 hF).1, Or.inr h⟩
      have cr : Box (∀ w', Ext w w' → _) := ⟨fun w' h => run_any f hle.out w' (hE.out w' h)⟩
      have hRz : w.heap.size ≤ w.heap.size := Nat.le_refl _
      rcases key with ⟨hF, hok, htx⟩ | ⟨hF, ⟨hok, htx⟩ | hok⟩
      · as_aux_lemma =>
        have hy : (⟨(txtR (natF f)).toArray⟩ : ByteArray) = s := str_ext (by rw [htx])
        have cr2 : Box (∀ w', Ext w w' → Calls Tryz.prog 6 #[(.agg #[.int .i64 (f 0), .int .i64 (f 1), .int .i64 (f 2), .int .i64 (f 3), .int .i64 (f 4), .int .i64 (f 5), .int .i64 (f 6), .int .i64 (f 7), .int .i64 (f 8), .int .i64 (f 9), .int .i64 (f 10), .int .i64 (f 11)])] w' fun e w'' => e = .returned (.tuple #[.string s, .int .i64 0]) ∧ Ext w' w'') := ⟨fun w' h => (cr.out w' h).mono fun e w'' hp => by
          unfold RunP at hp
          rcases hp with ⟨⟨_, rfl⟩ | ⟨hn, _⟩, hb⟩
          · exact ⟨by rw [hy], hb⟩
          · exact absurd hok hn⟩
        have hss : (s.toList == s.toList) = true := by simp
        replace hF := Box.mk hF
        clear cr hy htx hok hfit hrd hle
        go_wp2_with (first
          | (refine wpList_load_mid rfl 24 (.tmp 4) rfl (w.heap.size + 1) 0 rfl [.int .i64 (f 0), .int .i64 (f 1), .int .i64 (f 2), .int .i64 (f 3), .int .i64 (f 4), .int .i64 (f 5), .int .i64 (f 6), .int .i64 (f 7), .int .i64 (f 8), .int .i64 (f 9), .int .i64 (f 10), .int .i64 (f 11)] dC hrC.out huC hdC infoRC ?_)
          | (go_at_call 6; (with_reducible refine (cr2.out _ hx.out).mono ?_); rintro e w5 ⟨rfl, hb⟩; have hrD := Box.mk (rc_range (RcAt.ext hC.out hb)); replace hR := Box.mk (Ext.blk hb hR.out); replace hx := Box.mk (Ext.trans' hx.out hb); clear hb)
          | (refine wpList_load_mid rfl 24 (.tmp 4) rfl (w.heap.size + 1) 0 rfl [.int .i64 (f 0), .int .i64 (f 1), .int .i64 (f 2), .int .i64 (f 3), .int .i64 (f 4), .int .i64 (f 5), .int .i64 (f 6), .int .i64 (f 7), .int .i64 (f 8), .int .i64 (f 9), .int .i64 (f 10), .int .i64 (f 11)] dC hrD.out huC hdC infoRC ?_)
          | (refine wpList_store_row1 rfl 24 (.tmp 2) (.tmp 46) rfl w.heap.size #[.int .i64 (f 0), .int .i64 (f 1), .int .i64 (f 2), .int .i64 (f 3), .int .i64 (f 4), .int .i64 (f 5), .int .i64 (f 6), .int .i64 (f 7), .int .i64 (f 8), .int .i64 (f 9), .int .i64 (f 10), .int .i64 (f 11)] rfl rfl 24 #[.int .i64 0, .int .i64 0, .int .i64 0, .int .i64 0, .int .i64 0, .int .i64 0, .int .i64 0, .int .i64 0, .int .i64 0, .int .i64 0, .int .i64 0, .int .i64 0] hR.out infoRC rfl (oneRC f) ?_))
        have hRf : (w5.setRow w.heap.size #[.int .i64 (f 0), .int .i64 (f 1), .int .i64 (f 2), .int .i64 (f 3), .int .i64 (f 4), .int .i64 (f 5), .int .i64 (f 6), .int .i64 (f 7), .int .i64 (f 8), .int .i64 (f 9), .int .i64 (f 10), .int .i64 (f 11)]).rangeAt w.heap.size 0 [.int .i64 (f 0), .int .i64 (f 1), .int .i64 (f 2), .int .i64 (f 3), .int .i64 (f 4), .int .i64 (f 5), .int .i64 (f 6), .int .i64 (f 7), .int .i64 (f 8), .int .i64 (f 9), .int .i64 (f 10), .int .i64 (f 11)] := rc_range (f := f) (setRow_heap w5 w.heap.size _ _ _ _ hR.out)
        have hend : Post (.returned (.tuple #[(.agg #[.int .i64 (f 0), .int .i64 (f 1), .int .i64 (f 2), .int .i64 (f 3), .int .i64 (f 4), .int .i64 (f 5), .int .i64 (f 6), .int .i64 (f 7), .int .i64 (f 8), .int .i64 (f 9), .int .i64 (f 10), .int .i64 (f 11)]), .int .i64 0])) (w5.setRow w.heap.size #[.int .i64 (f 0), .int .i64 (f 1), .int .i64 (f 2), .int .i64 (f 3), .int .i64 (f 4), .int .i64 (f 5), .int .i64 (f 6), .int .i64 (f 7), .int .i64 (f 8), .int .i64 (f 9), .int .i64 (f 10), .int .i64 (f 11)]) := by
          rw [hP.out, hRR.out]
          exact ⟨Or.inl ⟨hF.out, rfl⟩, Ext.setRow1 hx.out (Nat.le_refl _) _⟩
        refine bodyPost_ret (v := .tuple #[(.agg #[.int .i64 (f 0), .int .i64 (f 1), .int .i64 (f 2), .int .i64 (f 3), .int .i64 (f 4), .int .i64 (f 5), .int .i64 (f 6), .int .i64 (f 7), .int .i64 (f 8), .int .i64 (f 9), .int .i64 (f 10), .int .i64 (f 11)]), .int .i64 0]) ?_ rfl hend
        rw [results_cell_tmp rfl]
        simp [asAddr, Act.put, Result.andThen, run_loadVar_mid (w5.setRow w.heap.size #[.int .i64 (f 0), .int .i64 (f 1), .int .i64 (f 2), .int .i64 (f 3), .int .i64 (f 4), .int .i64 (f 5), .int .i64 (f 6), .int .i64 (f 7), .int .i64 (f 8), .int .i64 (f 9), .int .i64 (f 10), .int .i64 (f 11)]) w.heap.size 0 24 [.int .i64 (f 0), .int .i64 (f 1), .int .i64 (f 2), .int .i64 (f 3), .int .i64 (f 4), .int .i64 (f 5), .int .i64 (f 6), .int .i64 (f 7), .int .i64 (f 8), .int .i64 (f 9), .int .i64 (f 10), .int .i64 (f 11)] dC hRf huC hdC infoRC]
      · as_aux_lemma =>
        have cr2 : Box (∀ w', Ext w w' → Calls Tryz.prog 6 #[(.agg #[.int .i64 (f 0), .int .i64 (f 1), .int .i64 (f 2), .int .i64 (f 3), .int .i64 (f 4), .int .i64 (f 5), .int .i64 (f 6), .int .i64 (f 7), .int .i64 (f 8), .int .i64 (f 9), .int .i64 (f 10), .int .i64 (f 11)])] w' fun e w'' => e = .returned (.tuple #[.string ⟨(txtR (natF f)).toArray⟩, .int .i64 0]) ∧ Ext w' w'') := ⟨fun w' h => (cr.out w' h).mono fun e w'' hp => by
          unfold RunP at hp
          rcases hp with ⟨⟨_, rfl⟩ | ⟨hn, _⟩, hb⟩
          · exact ⟨rfl, hb⟩
          · exact absurd hok hn⟩
        have hss : ((⟨(txtR (natF f)).toArray⟩ : ByteArray).toList == s.toList) = false := by
          rw [Lib.toList_data, Lib.toList_data, beq_eq_false_iff_ne]; exact htx
        generalize (⟨(txtR (natF f)).toArray⟩ : ByteArray) = y at *
        replace hF := Box.mk hF
        clear cr htx hok hfit hrd hle
        go_wp2_with (first
          | (refine wpList_load_mid rfl 24 (.tmp 4) rfl (w.heap.size + 1) 0 rfl [.int .i64 (f 0), .int .i64 (f 1), .int .i64 (f 2), .int .i64 (f 3), .int .i64 (f 4), .int .i64 (f 5), .int .i64 (f 6), .int .i64 (f 7), .int .i64 (f 8), .int .i64 (f 9), .int .i64 (f 10), .int .i64 (f 11)] dC hrC.out huC hdC infoRC ?_)
          | (go_at_call 6; (with_reducible refine (cr2.out _ hx.out).mono ?_); rintro e w5 ⟨rfl, hb⟩; replace hR := Box.mk (Ext.blk hb hR.out); replace hx := Box.mk (Ext.trans' hx.out hb); clear hb)
          | (refine wpList_store_row1 rfl 24 (.tmp 2) (.tmp 45) rfl w.heap.size #[.int .i64 0, .int .i64 0, .int .i64 0, .int .i64 0, .int .i64 0, .int .i64 0, .int .i64 0, .int .i64 0, .int .i64 0, .int .i64 0, .int .i64 0, .int .i64 0] rfl rfl 24 #[.int .i64 0, .int .i64 0, .int .i64 0, .int .i64 0, .int .i64 0, .int .i64 0, .int .i64 0, .int .i64 0, .int .i64 0, .int .i64 0, .int .i64 0, .int .i64 0] hR.out infoRC rfl (oneRC fun _ => 0) ?_))
        have hRf : (w5.setRow w.heap.size #[.int .i64 0, .int .i64 0, .int .i64 0, .int .i64 0, .int .i64 0, .int .i64 0, .int .i64 0, .int .i64 0, .int .i64 0, .int .i64 0, .int .i64 0, .int .i64 0]).rangeAt w.heap.size 0 [.int .i64 0, .int .i64 0, .int .i64 0, .int .i64 0, .int .i64 0, .int .i64 0, .int .i64 0, .int .i64 0, .int .i64 0, .int .i64 0, .int .i64 0, .int .i64 0] := rc_range (f := fun _ => 0) (setRow_heap w5 w.heap.size _ _ _ _ hR.out)
        have hend : Post (.returned (.tuple #[.agg #[.int .i64 0, .int .i64 0, .int .i64 0, .int .i64 0, .int .i64 0, .int .i64 0, .int .i64 0, .int .i64 0, .int .i64 0, .int .i64 0, .int .i64 0, .int .i64 0], .int .i64 6])) (w5.setRow w.heap.size #[.int .i64 0, .int .i64 0, .int .i64 0, .int .i64 0, .int .i64 0, .int .i64 0, .int .i64 0, .int .i64 0, .int .i64 0, .int .i64 0, .int .i64 0, .int .i64 0]) := by
          rw [hP.out, hRR.out]
          exact ⟨Or.inr ⟨hF.out, rfl⟩, Ext.setRow1 hx.out (Nat.le_refl _) _⟩
        refine bodyPost_ret (v := .tuple #[.agg #[.int .i64 0, .int .i64 0, .int .i64 0, .int .i64 0, .int .i64 0, .int .i64 0, .int .i64 0, .int .i64 0, .int .i64 0, .int .i64 0, .int .i64 0, .int .i64 0], .int .i64 6]) ?_ rfl hend
        rw [results_cell_tmp rfl]
        simp [asAddr, Act.put, Result.andThen, run_loadVar_mid (w5.setRow w.heap.size #[.int .i64 0, .int .i64 0, .int .i64 0, .int .i64 0, .int .i64 0, .int .i64 0, .int .i64 0, .int .i64 0, .int .i64 0, .int .i64 0, .int .i64 0, .int .i64 0]) w.heap.size 0 24 [.int .i64 0, .int .i64 0, .int .i64 0, .int .i64 0, .int .i64 0, .int .i64 0, .int .i64 0, .int .i64 0, .int .i64 0, .int .i64 0, .int .i64 0, .int .i64 0] dC hRf huC hdC infoRC]
      · as_aux_lemma =>
        have cr2 : Box (∀ w', Ext w w' → Calls Tryz.prog 6 #[(.agg #[.int .i64 (f 0), .int .i64 (f 1), .int .i64 (f 2), .int .i64 (f 3), .int .i64 (f 4), .int .i64 (f 5), .int .i64 (f 6), .int .i64 (f 7), .int .i64 (f 8), .int .i64 (f 9), .int .i64 (f 10), .int .i64 (f 11)])] w' fun e w'' => e = .returned (.tuple #[.string ⟨#[]⟩, .int .i64 2]) ∧ Ext w' w'') := ⟨fun w' h => (cr.out w' h).mono fun e w'' hp => by
          unfold RunP at hp
          rcases hp with ⟨⟨hn, _⟩ | ⟨_, rfl⟩, hb⟩
          · exact absurd hn hok
          · exact ⟨rfl, hb⟩⟩
        replace hF := Box.mk hF
        clear cr hok hfit hrd hle
        go_wp2_with (first
          | (refine wpList_load_mid rfl 24 (.tmp 4) rfl (w.heap.size + 1) 0 rfl [.int .i64 (f 0), .int .i64 (f 1), .int .i64 (f 2), .int .i64 (f 3), .int .i64 (f 4), .int .i64 (f 5), .int .i64 (f 6), .int .i64 (f 7), .int .i64 (f 8), .int .i64 (f 9), .int .i64 (f 10), .int .i64 (f 11)] dC hrC.out huC hdC infoRC ?_)
          | (go_at_call 6; (with_reducible refine (cr2.out _ hx.out).mono ?_); rintro e w5 ⟨rfl, hb⟩; replace hR := Box.mk (Ext.blk hb hR.out); replace hx := Box.mk (Ext.trans' hx.out hb); clear hb)
          | (refine wpList_store_row1 rfl 24 (.tmp 2) (.tmp 45) rfl w.heap.size #[.int .i64 0, .int .i64 0, .int .i64 0, .int .i64 0, .int .i64 0, .int .i64 0, .int .i64 0, .int .i64 0, .int .i64 0, .int .i64 0, .int .i64 0, .int .i64 0] rfl rfl 24 #[.int .i64 0, .int .i64 0, .int .i64 0, .int .i64 0, .int .i64 0, .int .i64 0, .int .i64 0, .int .i64 0, .int .i64 0, .int .i64 0, .int .i64 0, .int .i64 0] hR.out infoRC rfl (oneRC fun _ => 0) ?_))
        have hRf : (w5.setRow w.heap.size #[.int .i64 0, .int .i64 0, .int .i64 0, .int .i64 0, .int .i64 0, .int .i64 0, .int .i64 0, .int .i64 0, .int .i64 0, .int .i64 0, .int .i64 0, .int .i64 0]).rangeAt w.heap.size 0 [.int .i64 0, .int .i64 0, .int .i64 0, .int .i64 0, .int .i64 0, .int .i64 0, .int .i64 0, .int .i64 0, .int .i64 0, .int .i64 0, .int .i64 0, .int .i64 0] := rc_range (f := fun _ => 0) (setRow_heap w5 w.heap.size _ _ _ _ hR.out)
        have hend : Post (.returned (.tuple #[.agg #[.int .i64 0, .int .i64 0, .int .i64 0, .int .i64 0, .int .i64 0, .int .i64 0, .int .i64 0, .int .i64 0, .int .i64 0, .int .i64 0, .int .i64 0, .int .i64 0], .int .i64 6])) (w5.setRow w.heap.size #[.int .i64 0, .int .i64 0, .int .i64 0, .int .i64 0, .int .i64 0, .int .i64 0, .int .i64 0, .int .i64 0, .int .i64 0, .int .i64 0, .int .i64 0, .int .i64 0]) := by
          rw [hP.out, hRR.out]
          exact ⟨Or.inr ⟨hF.out, rfl⟩, Ext.setRow1 hx.out (Nat.le_refl _) _⟩
        refine bodyPost_ret (v := .tuple #[.agg #[.int .i64 0, .int .i64 0, .int .i64 0, .int .i64 0, .int .i64 0, .int .i64 0, .int .i64 0, .int .i64 0, .int .i64 0, .int .i64 0, .int .i64 0, .int .i64 0], .int .i64 6]) ?_ rfl hend
        rw [results_cell_tmp rfl]
        simp [asAddr, Act.put, Result.andThen, run_loadVar_mid (w5.setRow w.heap.size #[.int .i64 0, .int .i64 0, .int .i64 0, .int .i64 0, .int .i64 0, .int .i64 0, .int .i64 0, .int .i64 0, .int .i64 0, .int .i64 0, .int .i64 0, .int .i64 0]) w.heap.size 0 24 [.int .i64 0, .int .i64 0, .int .i64 0, .int .i64 0, .int .i64 0, .int .i64 0, .int .i64 0, .int .i64 0, .int .i64 0, .int .i64 0, .int .i64 0, .int .i64 0] dC hRf huC hdC infoRC]
end Go.Proofs.YtcofejbkbcdopaaGreatDoor
