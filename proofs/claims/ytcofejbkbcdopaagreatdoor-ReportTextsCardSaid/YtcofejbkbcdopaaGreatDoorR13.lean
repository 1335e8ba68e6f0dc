import Derived.Test.YtcofejbkbcdopaaGreatDoorR12
/- A builder's WriteString, and what else it leaves as it was; the report's Run. -/
namespace Go.Proofs.YtcofejbkbcdopaaGreatDoor
open Go.RowKit
abbrev IsB (B : Nat) (l : List UInt8) (w : World) : Prop := Lib.IsBuilder 58 5 B B (Lib.byteCells l) w
theorem IsB.new (w : World) : IsB w.heap.size [] (w.alloc (.cells #[.pointer none, .slice none 0 0] 58)) :=
  Or.inl ⟨Nat.le_refl _, .slice none 0 0, newblk _ _, World.ownsRow_nil _ _ _ _, by simp [Value.ownBlock]⟩
theorem IsB.ext {B : Nat} {l : List UInt8} {w w' : World} (hb : Ext w w') (h : IsB B l w) : IsB B l w' := by
  rcases h with ⟨h1, v, h2, h3, h4⟩ | ⟨h1, v, h2, h3, h4⟩
  · exact Or.inl ⟨h1, v, Ext.blk hb h2, ownsRow_ext hb h3, h4⟩
  · exact Or.inr ⟨h1, v, Ext.blk hb h2, ownsRow_ext hb h3, h4⟩
theorem IsB.lt {B : Nat} {l : List UInt8} {w : World} (h : IsB B l w) : B < w.heap.size := by
  rcases h with ⟨_, v, h2, _⟩ | ⟨_, v, h2, _⟩ <;> exact blk_lt h2
theorem IsB.ne {B g : Nat} {l : List UInt8} {w : World} {cs : Array Value} {T : TypeId} {f : Nat × Nat} (h : IsB B l w) (hg : w.heap[g]? = some (.cells cs T f)) (hT : T ≠ 58) : g ≠ B := fun e => by
  subst e
  rcases h with ⟨_, v, h2, _⟩ | ⟨_, v, h2, _⟩ <;> (rw [hg] at h2; cases h2; exact hT rfl)
/-- Blocks of no bytes, but for one, are as they were. -/
def KeepT (b : Nat) (w w' : World) : Prop := ∀ (k : Nat) (cs : Array Value) (T : TypeId) (f : Nat × Nat), k ≠ b → T ≠ 5 → w.heap[k]? = some (.cells cs T f) → w'.heap[k]? = some (.cells cs T f)
theorem copyCheck_keep (B b : Nat) (bs : List Value) (w : World) (h : Lib.IsBuilder 58 5 B b bs w) :
    Calls Tryz.prog 33 #[.pointer (some ⟨b, 0, none⟩)] w fun e w' => e = .returned (.tuple #[]) ∧ (Lib.BuilderAt 58 5 B b (.pointer (some ⟨b, 0, none⟩)) bs w' ∧ Below B w w') ∧ ∀ k, k ≠ b → w'.heap[k]? = w.heap[k]? := by
  rcases h with h | h
  · refine (copyCheck_fresh b w h.cell0 h.shape h.frozen0).mono ?_
    rintro e w' ⟨rfl, rfl⟩
    exact ⟨rfl, ⟨h.used _, (Below.refl B w).setCell (p := ⟨b, 0, none⟩) h.1 _⟩, fun k hk => heap_setCell_other w ⟨b, 0, none⟩ k _ hk⟩
  · refine (copyCheck_used b w h.cell0).mono ?_
    rintro e w' ⟨rfl, rfl⟩
    exact ⟨rfl, ⟨h, Below.refl B _⟩, fun k _ => rfl⟩
set_option maxHeartbeats 2000000 in
set_option maxRecDepth 100000 in
theorem writeString_keepC (B b : Nat) (bs : List Value) (s : ByteArray) (w : World) (h : Lib.IsBuilder 58 5 B b bs w) (hlen : bs.length + s.size ≤ 140737488355328) (hBw : B ≤ w.heap.size) :
    Calls Tryz.prog 17 #[.pointer (some ⟨b, 0, none⟩), .string s] w fun e w' => e = .returned (.tuple #[.int .i64 s.size, .nilIface]) ∧ Lib.IsBuilder 58 5 B b (bs ++ Lib.strCells s) w' ∧ Below B w w' ∧ KeepT b w w' := by
  obtain ⟨i0, hi, hz0, hz1, hz2⟩ := info_parts infoByte
  go_enter Tryz.func17, Tryz.ntmps17
  go_wp2_with (go_at_call 33; refine (copyCheck_keep B b bs _ h).mono ?_)
  rintro e w1 ⟨rfl, ⟨h1, hb1⟩, hk1⟩
  replace hk1 := Box.mk hk1
  obtain ⟨hB, v, hbk, hown, hne⟩ := h1
  have c0 : w1.cell? ⟨b, 0, none⟩ = some (.pointer (some ⟨b, 0, none⟩)) := by rw [Lib.cell_of_heap hbk]; rfl
  have c1 : w1.cell? ⟨b, 1, none⟩ = some v := by rw [Lib.cell_of_heap hbk]; rfl
  go_wp2_with (at_builtin; refine Lib.wpList_append_own_string _ rfl _ _ 56 9 rfl B 5 i0 Tryz.underlying56 Tryz.underlying9 hi hz0 hz1 hz2 _ _ _ rfl hown s rfl ?c3 ?c4 ?c5 ?_)
  case c3 => unfold maxLen; omega
  case c4 => omega
  case c5 => have := hb1.size; omega
  intro v' w2 hown' hgrow _
  have hlt : b < w1.heap.size := by
    rcases Nat.lt_or_ge b w1.heap.size with h' | h'
    · exact h'
    · simp [Array.getElem?_eq_none h'] at hbk
  have hb2 : w2.heap[b]? = some (.cells #[.pointer (some ⟨b, 0, none⟩), v] 58 (0, 0)) := by
    rw [hgrow.block b hlt (fun e => hne e.symm)]
    exact hbk
  have d0 : w2.cell? ⟨b, 0, none⟩ = some (.pointer (some ⟨b, 0, none⟩)) := by rw [Lib.cell_of_heap hb2]; rfl
  have d1 : w2.cell? ⟨b, 1, none⟩ = some v := by rw [Lib.cell_of_heap hb2]; rfl
  have f1 : w2.frozen? ⟨b, 1, none⟩ = false := Lib.frozen_of_heap hb2 1
  obtain ⟨ao, n', cap, rfl⟩ : ∃ ao n' cap, v' = .slice ao n' cap := by
    rcases hown'.2 with ⟨hv, _⟩ | ⟨g, cap, cur, hv, _⟩
    · exact ⟨_, _, _, hv⟩
    · exact ⟨_, _, _, hv⟩
  have hkeep : Box (∀ (k : Nat) (cs : Array Value) (T : TypeId) (f : Nat × Nat), k ≠ b → T ≠ 5 → w.heap[k]? = some (.cells cs T f) → w2.heap[k]? = some (.cells cs T f)) := ⟨fun k cs T f hkb hT hk => by
    have hk2 : w1.heap[k]? = some (.cells cs T f) := (hk1.out k hkb).trans hk
    refine (hgrow.block k (blk_lt hk2) (fun e9 => ?_)).trans hk2
    rcases hown.2 with ⟨rfl, _⟩ | ⟨g, cap, cur, rfl, _, hgb, _⟩
    · cases e9
    · simp only [Value.ownBlock, Option.some.injEq] at e9
      subst e9
      rw [hk2] at hgb
      cases hgb
      exact hT rfl⟩
  go_wp2
  go_ret2
  refine ⟨rfl, Or.inr ?_, ?_, fun k cs T f hkb hT hk => ?_⟩
  · exact Lib.BuilderAt.put (T := 58) (e := 5) hB hb2 (bs' := bs ++ Lib.strCells s) (by simpa [Lib.strCells_length] using hown') (by decide)
  · exact (hb1.grown hgrow (by have := hb1.size; omega) (fun k hk => (hown.lt k hk).1)).setCell (p := ⟨b, 1, none⟩) hB _
  · exact (heap_setCell_other w2 ⟨b, 1, none⟩ k _ hkb).trans (hkeep.out k cs T f hkb hT hk)
theorem writeString_keep (B : Nat) (l : List UInt8) (s : ByteArray) (w : World) (h : IsB B l w) (hlen : l.length + s.size ≤ 140737488355328) :
    Calls Tryz.prog 17 #[.pointer (some ⟨B, 0, none⟩), .string s] w fun e w' => e = .returned (.tuple #[.int .i64 s.size, .nilIface]) ∧ IsB B (l ++ s.data.toList) w' ∧ Below B w w' ∧ KeepT B w w' := by
  have h1 := writeString_keepC B B (Lib.byteCells l) s w h (by rw [Lib.byteCells_length]; exact hlen) (Nat.le_of_lt h.lt)
  rw [Lib.strCells_eq, ← Lib.byteCells_append] at h1
  exact h1
theorem rv_cell {w : World} {B : Nat} {T : TypeId} {f : Nat → Int} (h : w.heap[B]? = some (.cells #[.int .i64 (f 0), .int .i64 (f 1), .int .i64 (f 2), .int .i64 (f 3), .int .i64 (f 4), .int .i64 (f 5), .int .i64 (f 6), .int .i64 (f 7), .int .i64 (f 8), .int .i64 (f 9), .int .i64 (f 10), .int .i64 (f 11)] T (0, 0))) (i : Nat) (hi : i < 12) : w.cell? ⟨B, i, none⟩ = some (.int .i64 (f i)) := by
  rw [Lib.cell_of_heap h]
  obtain rfl | rfl | rfl | rfl | rfl | rfl | rfl | rfl | rfl | rfl | rfl | rfl : i = 0 ∨ i = 1 ∨ i = 2 ∨ i = 3 ∨ i = 4 ∨ i = 5 ∨ i = 6 ∨ i = 7 ∨ i = 8 ∨ i = 9 ∨ i = 10 ∨ i = 11 := by omega
  all_goals rfl
/-- A load under a name of its own: the walk of a drawn region is not to take it first. -/
def ldW : Op := Op.load 9 (Operand.tmp 21)
/-- What Run answers. -/
def RunP (f : Nat → Int) (w : World) (e : Ending) (w' : World) : Prop :=
  ((okR f ∧ e = .returned (.tuple #[.string ⟨(txtR (natF f)).toArray⟩, .int .i64 0])) ∨ (¬ okR f ∧ e = .returned (.tuple #[.string ⟨#[]⟩, .int .i64 2]))) ∧ Ext w w'
set_option maxRecDepth 100000 in
set_option maxHeartbeats 8000000 in
theorem run_any (f : Nat → Int) (hf : ∀ i, i < 12 → f i ≤ 9223372036854775807) (w : World) (hw : EnvV w) : Calls Tryz.prog 6 #[(.agg #[.int .i64 (f 0), .int .i64 (f 1), .int .i64 (f 2), .int .i64 (f 3), .int .i64 (f 4), .int .i64 (f 5), .int .i64 (f 6), .int .i64 (f 7), .int .i64 (f 8), .int .i64 (f 9), .int .i64 (f 10), .int .i64 (f 11)])] w (RunP f w) := by
  have hE : Box (∀ w', Ext w w' → EnvV w') := ⟨fun w' h => hw.ext h⟩
  obtain ⟨Post, hP⟩ : ∃ P, P = RunP f w := ⟨_, rfl⟩
  rw [← hP]
  replace hP := Box.mk hP
  have cn : Box _ := ⟨fun w1 => numbers_any w.heap.size w1⟩
  have hB0 := IsB.new (w.alloc (.cells #[.int .i64 (f 0), .int .i64 (f 1), .int .i64 (f 2), .int .i64 (f 3), .int .i64 (f 4), .int .i64 (f 5), .int .i64 (f 6), .int .i64 (f 7), .int .i64 (f 8), .int .i64 (f 9), .int .i64 (f 10), .int .i64 (f 11)] 24))
  rw [World.size_alloc] at hB0
  have hC0 : ((w.alloc (.cells #[.int .i64 (f 0), .int .i64 (f 1), .int .i64 (f 2), .int .i64 (f 3), .int .i64 (f 4), .int .i64 (f 5), .int .i64 (f 6), .int .i64 (f 7), .int .i64 (f 8), .int .i64 (f 9), .int .i64 (f 10), .int .i64 (f 11)] 24)).alloc (.cells #[.pointer none, .slice none 0 0] 58)).heap[w.heap.size]? = some (.cells #[.int .i64 (f 0), .int .i64 (f 1), .int .i64 (f 2), .int .i64 (f 3), .int .i64 (f 4), .int .i64 (f 5), .int .i64 (f 6), .int .i64 (f 7), .int .i64 (f 8), .int .i64 (f 9), .int .i64 (f 10), .int .i64 (f 11)] 24 (0, 0)) := Ext.blk (Ext.alloc (Below.refl _ _) _) (newblk _ _)
  have hx0 : Ext w ((w.alloc (.cells #[.int .i64 (f 0), .int .i64 (f 1), .int .i64 (f 2), .int .i64 (f 3), .int .i64 (f 4), .int .i64 (f 5), .int .i64 (f 6), .int .i64 (f 7), .int .i64 (f 8), .int .i64 (f 9), .int .i64 (f 10), .int .i64 (f 11)] 24)).alloc (.cells #[.pointer none, .slice none 0 0] 58)) := Ext.alloc (Ext.alloc (Below.refl _ _) _) _
  replace hB0 := Box.mk hB0
  replace hC0 := Box.mk hC0
  replace hx0 := Box.mk hx0
  have cs : Box (∀ w1, IsB (w.heap.size + 1) [] w1 → _) := ⟨fun w1 h => writeString_keep (w.heap.size + 1) [] ⟨#[114, 117, 110, 58, 10]⟩ w1 h (by decide)⟩
  replace hf := Box.mk hf
  clear hw
  go_enter Tryz.func6, Tryz.ntmps6
  go_wp2_with (first
    | (go_at_call 17; (with_reducible refine (cs.out _ hB0.out).mono ?_); rintro e w1 ⟨rfl, hB1, hb1, hk1⟩; replace hB1 := Box.mk hB1; have hC1 := Box.mk (hk1 _ _ _ _ (by omega) (by decide) hC0.out); have hx1 := Box.mk (Below.trans hx0.out (hb1.mono (by omega))); clear hb1 hk1)
    | (go_at_call 18; (with_reducible refine (cn.out _).mono ?_); rintro e w2 ⟨v, rfl, ⟨g, cap, cur, rfl, hg, hcur⟩, hb2⟩; replace hB1 := Box.mk (hB1.out.ext hb2); replace hC1 := Box.mk (Ext.blk hb2 hC1.out); replace hx1 := Box.mk (Ext.trans' hx1.out hb2); replace hg := Box.mk hg; replace hcur := Box.mk hcur; clear hb2))
  have hgb : Box (g ≠ w.heap.size + 1) := ⟨hB1.out.ne hg.out (by decide)⟩
  go_loopw [5, 6, 10] (fun _ _ i wr => ∃ t : Nat, t ≤ 12 ∧ i = .int .i64 (t : Int) ∧ Box (IsB (w.heap.size + 1) (txtK (natF f) t) wr) ∧ Box (∀ j, j < t → 0 ≤ f j) ∧ Box (wr.heap[w.heap.size]? = some (.cells #[.int .i64 (f 0), .int .i64 (f 1), .int .i64 (f 2), .int .i64 (f 3), .int .i64 (f 4), .int .i64 (f 5), .int .i64 (f 6), .int .i64 (f 7), .int .i64 (f 8), .int .i64 (f 9), .int .i64 (f 10), .int .i64 (f 11)] 24 (0, 0))) ∧ Box (wr.heap[g]? = some (.cells cur 66 (0, 0))) ∧ Box (Ext w wr)) (fun _ _ i _ => 12 - (intOf i).toNat)
  case atStart => exact ⟨0, by omega, rfl, ⟨hB1.out⟩, ⟨fun j hj => by omega⟩, hC1, hg, hx1⟩
  case round =>
    clear hB1 hC1 hg hx1 hB0 hC0 hx0 cn cs
    obtain ⟨t, ht, rfl, hB, hn, hC, hg, hx⟩ := hrel
    by_cases h12 : t < 12
    · have d1 : decide ((t : Int) < 12) = true := decide_eq_true (by omega)
      have d2 : (t : Int) < 12 := by omega
      have l1 : wr.cell? ⟨g, t, none⟩ = some (.pointer (some ⟨w.heap.size, t, none⟩)) := by rw [Lib.cell_of_heap hg.out]; exact hcur.out t h12
      have l2 := rv_cell hC.out t h12
      by_cases hneg : f t < 0
      · have d3 : decide (f t < 0) = true := decide_eq_true hneg
        have hno : Box (¬ okR f) := ⟨fun h => by have := h t h12; omega⟩
        clear hneg hB
        go_wp2
        rw [hP.out]
        exact ⟨Or.inr ⟨hno.out, rfl⟩, hx.out⟩
      · have d3 : decide (f t < 0) = false := decide_eq_false hneg
        have hft := hf.out t h12
        obtain ⟨n, hnn⟩ : ∃ n : Nat, f t = n := ⟨(f t).toNat, by omega⟩
        have hnat : natF f t = n := by unfold natF; omega
        have hnnB : Box (some (Value.int .i64 (f t)) = some (Value.int .i64 (n : Int))) := ⟨by rw [hnn]⟩
        rw [hnn] at l2 d3
        have cw : Box (∀ w', Ext w w' → _) := ⟨fun w' h => rwords_any w' (hE.out w' h)⟩
        have ci : Box (∀ w', Ext w w' → _) := ⟨fun w' h => ritoa_any n (by omega) w' (hE.out w' h).env.tabs⟩
        have hn2 : Box (∀ j, j < t + 1 → 0 ≤ f j) := ⟨fun j hj => by
          by_cases e : j = t
          · subst e; omega
          · exact hn.out j (by omega)⟩
        have z1 := digs_le n (by omega)
        have z2 : (wSR t).size ≤ 8 := wR_len t
        have hTl : (txtK (natF f) t).length ≤ 5 + 32 * t := by
          have : ∀ m, m ≤ t → (txtK (natF f) m).length ≤ 5 + 32 * m := by
            intro m
            induction m with
            | zero => intro _; simp [txtK, headR]
            | succ m ih =>
              intro hm
              have h1 := ih (by omega)
              have h2 := lineR_len m (natF f m) (by have := hf.out m (by omega); unfold natF; omega)
              simp only [txtK, List.length_append, List.length_cons, List.length_nil]; omega
          exact this t (Nat.le_refl _)
        have hline : Box (txtK (natF f) (t + 1) = txtK (natF f) t ++ (⟨#[45, 32]⟩ ++ wSR t ++ ⟨#[32]⟩ ++ digs n ++ ⟨#[10]⟩ : ByteArray).data.toList) := ⟨by
          show txtK (natF f) t ++ (lineR t (natF f t) ++ [10]) = _
          rw [hnat]
          simp [lineR, wSR, digs, dd, ByteArray.data_append]⟩
        have cS : Box (∀ wr, IsB (w.heap.size + 1) (txtK (natF f) t) wr → _) := ⟨fun wr h => writeString_keep (w.heap.size + 1) (txtK (natF f) t) (⟨#[45, 32]⟩ ++ wSR t ++ ⟨#[32]⟩ ++ digs n ++ ⟨#[10]⟩) wr h (by
          have e1 : (⟨#[45, 32]⟩ : ByteArray).size = 2 := rfl
          have e2 : (⟨#[32]⟩ : ByteArray).size = 1 := rfl
          have e3 : (⟨#[10]⟩ : ByteArray).size = 1 := rfl
          simp only [ByteArray.size_append, e1, e2, e3]; omega)⟩
        generalize digs n = y1 at *
        generalize hy2 : wSR t = y2 at *
        replace hy2 := Box.mk hy2
        have g1 : ¬ 9223372036854775807 < 2 + y2.size := by omega
        have g2 : ¬ 9223372036854775807 < 2 + y2.size + 1 := by omega
        have g3 : ¬ 9223372036854775807 < 2 + y2.size + 1 + y1.size := by omega
        have g4 : ¬ 9223372036854775807 < 2 + y2.size + 1 + y1.size + 1 := by omega
        clear hneg hft hTl hn hnat hnn
        have hx := hx.out
        have hlt : w.heap.size < wr.heap.size := by have := hB.out.lt; omega
        go_wp2
        rw [show Op.load 9 (Operand.tmp 21) = ldW from rfl]
        have hop : ldW = Op.load 9 (Operand.tmp 21) := rfl
        replace hx := Ext.drew1 hx
        replace hB := IsB.ext (Ext.drew1 (Below.refl _ _)) hB.out
        replace hC := Ext.blk (Ext.drew1 (Below.refl _ _)) hC.out
        replace hg := Ext.blk (Ext.drew1 (Below.refl _ _)) hg.out
        replace l2 := Ext.cell (Ext.drew1 (Below.refl _ _)) l2
        replace hB := Box.mk hB
        replace hC := Box.mk hC
        replace hg := Box.mk hg
        go_region_held3 (fun w' => w'.cell? ⟨w.heap.size, t, none⟩ = some (.int .i64 n))
          (first
            | go_keep
            | (with_reducible exact l2))
          (first
            | (go_at_call 19; (with_reducible refine (cw.out _ hx).mono ?_); rintro e w3 ⟨v, rfl, ⟨gw, capw, rfl, hwc⟩, hb3⟩; replace hwc := hwc t h12; rw [hy2.out] at hwc; replace hx := Ext.trans' hx hb3; replace hB := Box.mk (IsB.ext hb3 hB.out); replace hC := Box.mk (Ext.blk hb3 hC.out); replace hg := Box.mk (Ext.blk hb3 hg.out); replace l2 := Ext.cell hb3 l2; clear hb3)
            | (go_at_call 20; (with_reducible refine (ci.out _ hx).mono ?_); rintro e w3 ⟨rfl, hb3⟩; replace hx := Ext.trans' hx hb3; replace hB := Box.mk (IsB.ext hb3 hB.out); replace hC := Box.mk (Ext.blk hb3 hC.out); replace hg := Box.mk (Ext.blk hb3 hg.out); replace l2 := Ext.cell hb3 l2; (try replace hwc := Ext.cell hb3 hwc); clear hb3)
            | (go_at_call 17; (with_reducible refine (cS.out _ hB.out).mono ?_); rintro e w3 ⟨rfl, hB3, hb3, hk3⟩; replace hx := Below.trans hx (hb3.mono (by omega)); replace hB := Box.mk hB3; replace hC := Box.mk (hk3 _ _ _ _ (by omega) (by decide) hC.out); replace hg := Box.mk (hk3 _ _ _ _ hgb.out (by decide) hg.out); replace l2 := (rv_cell hC.out t h12).trans hnnB.out; clear hb3 hk3 hB3))
        all_goals
          go_wp2
          go_roundw
          case rel => exact ⟨t + 1, by omega, by go_num, ⟨by rw [hline.out]; exact hB.out⟩, hn2, hC, hg, ⟨hx⟩⟩
          case measure => simp [intOf]; omega
    · obtain rfl : t = 12 := by omega
      have hok : Box (okR f) := ⟨fun i hi => hn.out i hi⟩
      have cT := Box.mk (Tryz.Builder_String_any (w.heap.size + 1) (w.heap.size + 1) (txtK (natF f) 12) wr hB.out (Nat.le_of_lt hB.out.lt))
      have hx := hx.out
      go_wp2_with (go_at_call 21; (with_reducible refine cT.out.mono ?_); rintro e w9 ⟨rfl, hb9⟩; replace hx := Below.trans hx (hb9.mono (by omega)))
      rw [hP.out]
      exact ⟨Or.inl ⟨hok.out, rfl⟩, hx⟩
end Go.Proofs.YtcofejbkbcdopaaGreatDoor
