import Derived.Test.YtcofejbkbcdopaaGreatDoorR13
import Derived.Test.YtcofejbkbcdopaaGreatDoorR9
import Derived.Test.YtcofejbkbcdopaaGreatDoorRQ
import Derived.Test.YtcofejbkbcdopaaGreatDoorRP
/- Contracts: the law's words, numbers and text of a count, and whether a count is big. -/
namespace Go.Proofs.YtcofejbkbcdopaaGreatDoor
open Go.RowKit
theorem info5 : (Tryz.prog.info? 22).map (·.size) = some 5 := by kernel_rfl
theorem row5 : (Tryz.prog.underlying 22).map (·.isRow) = some true := by kernel_rfl
theorem range_at {w : World} {C : Nat} {cs : List Value} {T : TypeId} {fr : Nat × Nat} (h : w.heap[C]? = some (.cells cs.toArray T fr)) (o : Nat) (l : List Value) (hl : ∀ j v, l[j]? = some v → cs[o + j]? = some v) : w.rangeAt C o l := by
  intro j v hj
  rw [Lib.cell_of_heap h]
  simpa using hl j v hj
theorem lt12 {j : Nat} (h : j < 12) : j = 0 ∨ j = 1 ∨ j = 2 ∨ j = 3 ∨ j = 4 ∨ j = 5 ∨ j = 6 ∨ j = 7 ∨ j = 8 ∨ j = 9 ∨ j = 10 ∨ j = 11 := by omega
set_option maxRecDepth 100000 in
set_option maxHeartbeats 4000000 in
theorem lwords_any (w : World) : Calls Tryz.prog 23 #[] w fun e w' => (∃ B, e = .returned (.slice (some ⟨B, 0, none⟩) 12 12) ∧ ∀ j, j < 12 → w'.cell? ⟨B, j, none⟩ = some (.string (wSR j))) ∧ Ext w w' := by
  go_enter Tryz.func23, Tryz.ntmps23
  go_wp2
  go_ret
  refine ⟨⟨_, rfl, fun j hj => ?_⟩, Ext.alloc (Below.refl _ _) _⟩
  rw [Lib.cell_of_heap (newblk w (.cells #[.string ⟨#[111, 112, 115]⟩, .string ⟨#[101, 114, 114, 111, 114, 115]⟩, .string ⟨#[103, 101, 116, 115]⟩, .string ⟨#[104, 105, 116, 115]⟩, .string ⟨#[115, 101, 116, 115]⟩, .string ⟨#[101, 120, 112, 105, 114, 101, 100]⟩, .string ⟨#[101, 118, 105, 99, 116, 101, 100]⟩, .string ⟨#[114, 101, 112, 108, 97, 99, 101, 100]⟩, .string ⟨#[100, 101, 108, 101, 116, 101, 100]⟩, .string ⟨#[99, 108, 101, 97, 114, 101, 100]⟩, .string ⟨#[108, 101, 110]⟩, .string ⟨#[99, 111, 115, 116]⟩] 9))]
  obtain rfl | rfl | rfl | rfl | rfl | rfl | rfl | rfl | rfl | rfl | rfl | rfl := lt12 hj
  all_goals rfl
set_option maxRecDepth 100000 in
set_option maxHeartbeats 4000000 in
theorem lnumbers_any (f : Nat → Int) (w : World) : Calls Tryz.prog 22 #[(.agg #[.int .i64 (f 0), .int .i64 (f 1), .int .i64 (f 2), .int .i64 (f 3), .int .i64 (f 4), .int .i64 (f 5), .int .i64 (f 6), .int .i64 (f 7), .int .i64 (f 8), .int .i64 (f 9), .int .i64 (f 10), .int .i64 (f 11)])] w fun e w' => (∃ B, e = .returned (.slice (some ⟨B, 0, none⟩) 12 12) ∧ ∀ j, j < 12 → w'.cell? ⟨B, j, none⟩ = some (.int .i64 (f j))) ∧ Ext w w' := by
  obtain ⟨d5, hu5, hd5⟩ := und_row row5
  have hr5 : (w.alloc (.cells #[.int .i64 (f 0), .int .i64 (f 1), .int .i64 (f 2), .int .i64 (f 3), .int .i64 (f 4), .int .i64 (f 5), .int .i64 (f 6), .int .i64 (f 7), .int .i64 (f 8), .int .i64 (f 9), .int .i64 (f 10), .int .i64 (f 11)] 24)).rangeAt w.heap.size 5 [.int .i64 (f 5), .int .i64 (f 6), .int .i64 (f 7), .int .i64 (f 8), .int .i64 (f 9)] := range_at (cs := [.int .i64 (f 0), .int .i64 (f 1), .int .i64 (f 2), .int .i64 (f 3), .int .i64 (f 4), .int .i64 (f 5), .int .i64 (f 6), .int .i64 (f 7), .int .i64 (f 8), .int .i64 (f 9), .int .i64 (f 10), .int .i64 (f 11)]) (newblk w _) 5 _ (fun j v hj => by
    match j, hj with
    | 0, hj => exact hj
    | 1, hj => exact hj
    | 2, hj => exact hj
    | 3, hj => exact hj
    | 4, hj => exact hj
    | k + 5, hj => simp at hj)
  have hb1 : ((w.alloc (.cells #[.int .i64 (f 0), .int .i64 (f 1), .int .i64 (f 2), .int .i64 (f 3), .int .i64 (f 4), .int .i64 (f 5), .int .i64 (f 6), .int .i64 (f 7), .int .i64 (f 8), .int .i64 (f 9), .int .i64 (f 10), .int .i64 (f 11)] 24)).alloc (.cells #[.int .i64 (f 5), .int .i64 (f 6), .int .i64 (f 7), .int .i64 (f 8), .int .i64 (f 9)] 22)).heap[w.heap.size]? = some (.cells #[.int .i64 (f 0), .int .i64 (f 1), .int .i64 (f 2), .int .i64 (f 3), .int .i64 (f 4), .int .i64 (f 5), .int .i64 (f 6), .int .i64 (f 7), .int .i64 (f 8), .int .i64 (f 9), .int .i64 (f 10), .int .i64 (f 11)] 24 (0, 0)) := Ext.blk (Ext.alloc (Below.refl _ _) _) (newblk _ _)
  have hb2 : ((w.alloc (.cells #[.int .i64 (f 0), .int .i64 (f 1), .int .i64 (f 2), .int .i64 (f 3), .int .i64 (f 4), .int .i64 (f 5), .int .i64 (f 6), .int .i64 (f 7), .int .i64 (f 8), .int .i64 (f 9), .int .i64 (f 10), .int .i64 (f 11)] 24)).alloc (.cells #[.int .i64 (f 5), .int .i64 (f 6), .int .i64 (f 7), .int .i64 (f 8), .int .i64 (f 9)] 22)).heap[w.heap.size + 1]? = some (.cells #[.int .i64 (f 5), .int .i64 (f 6), .int .i64 (f 7), .int .i64 (f 8), .int .i64 (f 9)] 22 (0, 0)) := by
    have := newblk (w.alloc (.cells #[.int .i64 (f 0), .int .i64 (f 1), .int .i64 (f 2), .int .i64 (f 3), .int .i64 (f 4), .int .i64 (f 5), .int .i64 (f 6), .int .i64 (f 7), .int .i64 (f 8), .int .i64 (f 9), .int .i64 (f 10), .int .i64 (f 11)] 24)) (.cells #[.int .i64 (f 5), .int .i64 (f 6), .int .i64 (f 7), .int .i64 (f 8), .int .i64 (f 9)] 22)
    rwa [World.size_alloc] at this
  have hx : Ext w ((w.alloc (.cells #[.int .i64 (f 0), .int .i64 (f 1), .int .i64 (f 2), .int .i64 (f 3), .int .i64 (f 4), .int .i64 (f 5), .int .i64 (f 6), .int .i64 (f 7), .int .i64 (f 8), .int .i64 (f 9), .int .i64 (f 10), .int .i64 (f 11)] 24)).alloc (.cells #[.int .i64 (f 5), .int .i64 (f 6), .int .i64 (f 7), .int .i64 (f 8), .int .i64 (f 9)] 22)) := Ext.alloc (Ext.alloc (Below.refl _ _) _) _
  replace hb1 := Box.mk hb1
  replace hb2 := Box.mk hb2
  replace hr5 := Box.mk hr5
  replace hx := Box.mk hx
  go_enter Tryz.func22, Tryz.ntmps22
  go_upto_region 2 with (first
    | (refine wpList_load_mid rfl 22 (.tmp 4) rfl w.heap.size 5 rfl [.int .i64 (f 5), .int .i64 (f 6), .int .i64 (f 7), .int .i64 (f 8), .int .i64 (f 9)] d5 hr5.out hu5 hd5 info5 ?_)
    | (refine wpList_store_new rfl (w.alloc (.cells #[.int .i64 (f 0), .int .i64 (f 1), .int .i64 (f 2), .int .i64 (f 3), .int .i64 (f 4), .int .i64 (f 5), .int .i64 (f 6), .int .i64 (f 7), .int .i64 (f 8), .int .i64 (f 9), .int .i64 (f 10), .int .i64 (f 11)] 24)) 22 (.tmp 3) (.tmp 5) rfl _ #[.int .i64 (f 5), .int .i64 (f 6), .int .i64 (f 7), .int .i64 (f 8), .int .i64 (f 9)] rfl rfl info5 rfl (by simp [Value.oneCell']) ?_))
  try simp only [World.size_alloc]
  generalize (w.alloc (.cells #[.int .i64 (f 0), .int .i64 (f 1), .int .i64 (f 2), .int .i64 (f 3), .int .i64 (f 4), .int .i64 (f 5), .int .i64 (f 6), .int .i64 (f 7), .int .i64 (f 8), .int .i64 (f 9), .int .i64 (f 10), .int .i64 (f 11)] 24)).alloc (.cells #[.int .i64 (f 5), .int .i64 (f 6), .int .i64 (f 7), .int .i64 (f 8), .int .i64 (f 9)] 22) = w2 at *
  have q0 : w2.cell? ⟨w.heap.size, 0, none⟩ = some (.int .i64 (f 0)) := by rw [Lib.cell_of_heap hb1.out]; rfl
  have q1 : w2.cell? ⟨w.heap.size, 1, none⟩ = some (.int .i64 (f 1)) := by rw [Lib.cell_of_heap hb1.out]; rfl
  have q2 : w2.cell? ⟨w.heap.size, 2, none⟩ = some (.int .i64 (f 2)) := by rw [Lib.cell_of_heap hb1.out]; rfl
  have q3 : w2.cell? ⟨w.heap.size, 3, none⟩ = some (.int .i64 (f 3)) := by rw [Lib.cell_of_heap hb1.out]; rfl
  have q4 : w2.cell? ⟨w.heap.size, 4, none⟩ = some (.int .i64 (f 4)) := by rw [Lib.cell_of_heap hb1.out]; rfl
  have q10 : w2.cell? ⟨w.heap.size, 10, none⟩ = some (.int .i64 (f 10)) := by rw [Lib.cell_of_heap hb1.out]; rfl
  have q11 : w2.cell? ⟨w.heap.size, 11, none⟩ = some (.int .i64 (f 11)) := by rw [Lib.cell_of_heap hb1.out]; rfl
  have q5 : w2.cell? ⟨w.heap.size + 1, 0, none⟩ = some (.int .i64 (f 5)) := by rw [Lib.cell_of_heap hb2.out]; rfl
  have q6 : w2.cell? ⟨w.heap.size + 1, 1, none⟩ = some (.int .i64 (f 6)) := by rw [Lib.cell_of_heap hb2.out]; rfl
  have q7 : w2.cell? ⟨w.heap.size + 1, 2, none⟩ = some (.int .i64 (f 7)) := by rw [Lib.cell_of_heap hb2.out]; rfl
  have q8 : w2.cell? ⟨w.heap.size + 1, 3, none⟩ = some (.int .i64 (f 8)) := by rw [Lib.cell_of_heap hb2.out]; rfl
  have q9 : w2.cell? ⟨w.heap.size + 1, 4, none⟩ = some (.int .i64 (f 9)) := by rw [Lib.cell_of_heap hb2.out]; rfl
  clear hb1 hb2 hr5 hu5 hd5
  go_wp2
  go_ret
  refine ⟨⟨_, rfl, fun j hj => ?_⟩, Ext.alloc hx.out _⟩
  rw [Lib.cell_of_heap (newblk w2 (.cells #[.int .i64 (f 0), .int .i64 (f 1), .int .i64 (f 2), .int .i64 (f 3), .int .i64 (f 4), .int .i64 (f 5), .int .i64 (f 6), .int .i64 (f 7), .int .i64 (f 8), .int .i64 (f 9), .int .i64 (f 10), .int .i64 (f 11)] 3))]
  obtain rfl | rfl | rfl | rfl | rfl | rfl | rfl | rfl | rfl | rfl | rfl | rfl := lt12 hj
  all_goals rfl
/-- A load under a name of its own: the walk of a drawn region is not to take it first. -/
def ldT : Op := Op.load 9 (Operand.tmp 22)
/-- What the law's text answers. -/
def LtxP (f : Nat → Int) (w : World) (e : Ending) (w' : World) : Prop :=
  ((okR f ∧ e = .returned (.tuple #[.string ⟨(txtR (natF f)).toArray⟩, .bool true])) ∨ (¬ okR f ∧ e = .returned (.tuple #[.string ⟨#[]⟩, .bool false]))) ∧ Ext w w'
theorem txtK_long (f : Nat → Int) (hf : ∀ i, i < 12 → f i ≤ 9223372036854775807) : ∀ m, m ≤ 12 → (txtK (natF f) m).length ≤ 5 + 32 * m := by
  intro m
  induction m with
  | zero => intro _; simp [txtK, headR]
  | succ m ih =>
    intro hm
    have h1 := ih (by omega)
    have h2 := lineR_len m (natF f m) (by have := hf m (by omega); unfold natF; omega)
    simp only [txtK, List.length_append, List.length_cons, List.length_nil]; omega
set_option maxRecDepth 100000 in
set_option maxHeartbeats 8000000 in
theorem ltext_any (f : Nat → Int) (hf : ∀ i, i < 12 → f i ≤ 9223372036854775807) (w : World) : Calls Tryz.prog 7 #[(.agg #[.int .i64 (f 0), .int .i64 (f 1), .int .i64 (f 2), .int .i64 (f 3), .int .i64 (f 4), .int .i64 (f 5), .int .i64 (f 6), .int .i64 (f 7), .int .i64 (f 8), .int .i64 (f 9), .int .i64 (f 10), .int .i64 (f 11)])] w (LtxP f w) := by
  obtain ⟨Post, hP⟩ : ∃ P, P = LtxP f w := ⟨_, rfl⟩
  rw [← hP]
  replace hP := Box.mk hP
  obtain ⟨dC, huC, hdC⟩ := und_row rowRC
  have cn : Box _ := ⟨fun w1 => lnumbers_any f w1⟩
  have cW : Box _ := ⟨lwords_any⟩
  have hrC : Box ((w.alloc (.cells #[.int .i64 (f 0), .int .i64 (f 1), .int .i64 (f 2), .int .i64 (f 3), .int .i64 (f 4), .int .i64 (f 5), .int .i64 (f 6), .int .i64 (f 7), .int .i64 (f 8), .int .i64 (f 9), .int .i64 (f 10), .int .i64 (f 11)] 24)).rangeAt w.heap.size 0 [.int .i64 (f 0), .int .i64 (f 1), .int .i64 (f 2), .int .i64 (f 3), .int .i64 (f 4), .int .i64 (f 5), .int .i64 (f 6), .int .i64 (f 7), .int .i64 (f 8), .int .i64 (f 9), .int .i64 (f 10), .int .i64 (f 11)]) := ⟨range_at (cs := [.int .i64 (f 0), .int .i64 (f 1), .int .i64 (f 2), .int .i64 (f 3), .int .i64 (f 4), .int .i64 (f 5), .int .i64 (f 6), .int .i64 (f 7), .int .i64 (f 8), .int .i64 (f 9), .int .i64 (f 10), .int .i64 (f 11)]) (newblk w _) 0 _ (fun j v hj => by rw [Nat.zero_add]; exact hj)⟩
  have hx0 : Box (Ext w (w.alloc (.cells #[.int .i64 (f 0), .int .i64 (f 1), .int .i64 (f 2), .int .i64 (f 3), .int .i64 (f 4), .int .i64 (f 5), .int .i64 (f 6), .int .i64 (f 7), .int .i64 (f 8), .int .i64 (f 9), .int .i64 (f 10), .int .i64 (f 11)] 24))) := ⟨Ext.alloc (Below.refl _ _) _⟩
  replace hf := Box.mk hf
  go_enter Tryz.func7, Tryz.ntmps7
  go_wp2_with (first
    | (refine wpList_load_mid rfl 24 (.tmp 1) rfl w.heap.size 0 rfl [.int .i64 (f 0), .int .i64 (f 1), .int .i64 (f 2), .int .i64 (f 3), .int .i64 (f 4), .int .i64 (f 5), .int .i64 (f 6), .int .i64 (f 7), .int .i64 (f 8), .int .i64 (f 9), .int .i64 (f 10), .int .i64 (f 11)] dC hrC.out huC hdC infoRC ?_)
    | (go_at_call 22; (with_reducible refine (cn.out _).mono ?_); rintro e w1 ⟨⟨B, rfl, hq⟩, hb⟩; have hx1 := Box.mk (Ext.trans' hx0.out hb); replace hq := Box.mk hq; clear hb))
  go_loopw [4, 6] (fun o i wr => ∃ t : Nat, t ≤ 12 ∧ i = .int .i64 (t : Int) ∧ (∃ y : ByteArray, o = .string y ∧ Box (y.data.toList = txtK (natF f) t) ∧ y.size ≤ 5 + 32 * t) ∧ Box (∀ j, j < t → 0 ≤ f j) ∧ Box (∀ j, j < 12 → wr.cell? ⟨B, j, none⟩ = some (.int .i64 (f j))) ∧ Box (Ext w wr)) (fun _ i _ => 12 - (intOf i).toNat)
  case atStart => exact ⟨0, by omega, rfl, ⟨_, rfl, ⟨rfl⟩, by decide⟩, ⟨fun j hj => by omega⟩, hq, hx1⟩
  case round =>
    clear hq hx1 hx0 hrC cn
    obtain ⟨t, ht, rfl, ⟨y, rfl, hy, hys⟩, hn, hq, hx⟩ := hrel
    by_cases h12 : t < 12
    · have d1 : decide ((t : Int) < 12) = true := decide_eq_true (by omega)
      have d2 : (t : Int) < 12 := by omega
      have l2 := hq.out t h12
      by_cases hneg : f t < 0
      · as_aux_lemma =>
        have d3 : decide (f t < 0) = true := decide_eq_true hneg
        have hno : Box (¬ okR f) := ⟨fun h => by have := h t h12; omega⟩
        clear hneg
        go_wp2
        rw [hP.out]
        exact ⟨Or.inr ⟨hno.out, rfl⟩, hx.out⟩
      · as_aux_lemma =>
        have d3 : decide (f t < 0) = false := decide_eq_false hneg
        have hft := hf.out t h12
        obtain ⟨n, hnn⟩ : ∃ n : Nat, f t = n := ⟨(f t).toNat, by omega⟩
        have hnat : natF f t = n := by unfold natF; omega
        rw [hnn] at l2 d3
        have hqB : Box (∀ w', Ext wr w' → w'.cell? ⟨B, t, none⟩ = some (.int .i64 (n : Int))) := ⟨fun w' h => Ext.cell h l2⟩
        have ci : Box _ := ⟨fun w => l_dec n (by omega) w⟩
        have hn2 : Box (∀ j, j < t + 1 → 0 ≤ f j) := ⟨fun j hj => by
          by_cases e : j = t
          · subst e; omega
          · exact hn.out j (by omega)⟩
        have z1 := digs_le n (by omega)
        have z2 : (wSR t).size ≤ 8 := wR_len t
        have hTl := txtK_long f hf.out (t + 1) (by omega)
        have hline : Box ((y ++ ⟨#[45, 32]⟩ ++ wSR t ++ ⟨#[32]⟩ ++ digs n ++ ⟨#[10]⟩ : ByteArray).data.toList = txtK (natF f) (t + 1)) := ⟨by
          show _ = txtK (natF f) t ++ (lineR t (natF f t) ++ [10])
          rw [hnat, ← hy.out]
          simp [lineR, wSR, digs, dd, ByteArray.data_append]⟩
        have hsz : (y ++ ⟨#[45, 32]⟩ ++ wSR t ++ ⟨#[32]⟩ ++ digs n ++ ⟨#[10]⟩ : ByteArray).size ≤ 5 + 32 * (t + 1) := by
          rw [← hline.out] at hTl
          exact hTl
        generalize digs n = y1 at *
        generalize hy2 : wSR t = y2 at *
        replace hy2 := Box.mk hy2
        have g1 : ¬ 9223372036854775807 < y.size + 2 := by omega
        have g2 : ¬ 9223372036854775807 < y.size + 2 + y2.size := by omega
        have g3 : ¬ 9223372036854775807 < y.size + 2 + y2.size + 1 := by omega
        have g4 : ¬ 9223372036854775807 < y.size + 2 + y2.size + 1 + y1.size := by omega
        have g5 : ¬ 9223372036854775807 < y.size + 2 + y2.size + 1 + y1.size + 1 := by omega
        clear hneg hft hTl hn hnat hnn hy
        have hx := hx.out
        have hEr : Ext wr wr := Below.refl _ _
        go_wp2
        rw [show Op.load 9 (Operand.tmp 22) = ldT from rfl]
        have hop : ldT = Op.load 9 (Operand.tmp 22) := rfl
        replace hx := Ext.drew1 hx
        replace hEr := Ext.drew1 hEr
        replace l2 := hqB.out _ hEr
        go_region_held3 (fun w' => w'.cell? ⟨B, t, none⟩ = some (.int .i64 n))
          (first
            | (with_reducible exact l2)
            | go_keep)
          (first
            | (go_at_call 23; (with_reducible refine (cW.out _).mono ?_); rintro e w3 ⟨⟨Bw, rfl, hwc⟩, hb3⟩; replace hwc := hwc t h12; rw [hy2.out] at hwc; replace hx := Ext.trans' hx hb3; replace hEr := Ext.trans' hEr hb3; replace l2 := hqB.out _ hEr; clear hb3)
            | (go_at_call 24; (with_reducible refine (ci.out _).mono ?_); rintro e w3 ⟨rfl, hb3⟩; replace hx := Ext.trans' hx hb3; replace hEr := Ext.trans' hEr hb3; replace l2 := hqB.out _ hEr; (try replace hwc := Ext.cell hb3 hwc); clear hb3))
        all_goals
          go_wp2
          go_roundw
          case rel => exact ⟨t + 1, by omega, by go_num, ⟨_, rfl, hline, hsz⟩, hn2, ⟨fun j hj => Ext.cell hEr (hq.out j hj)⟩, ⟨hx⟩⟩
          case measure => simp [intOf]; omega
    · as_aux_lemma =>
      obtain rfl : t = 12 := by omega
      obtain rfl : y = ⟨(txtR (natF f)).toArray⟩ := str_ext (by rw [hy.out]; rfl)
      have hok : Box (okR f) := ⟨fun i hi => hn.out i hi⟩
      clear hq hn
      go_wp2
      rw [hP.out]
      exact ⟨Or.inl ⟨hok.out, rfl⟩, hx.out⟩
def bigF (f : Nat → Int) : Prop := ∃ i, i < 12 ∧ 576460752303423488 ≤ f i
set_option maxRecDepth 100000 in
set_option maxHeartbeats 8000000 in
theorem big_any (f : Nat → Int) (h : bigF f) (w : World) : Calls Tryz.prog 9 #[(.agg #[.int .i64 (f 0), .int .i64 (f 1), .int .i64 (f 2), .int .i64 (f 3), .int .i64 (f 4), .int .i64 (f 5), .int .i64 (f 6), .int .i64 (f 7), .int .i64 (f 8), .int .i64 (f 9), .int .i64 (f 10), .int .i64 (f 11)])] w fun e w' => e = .returned (.bool true) ∧ Ext w w' := by
  obtain ⟨dC, huC, hdC⟩ := und_row rowRC
  have cn : Box _ := ⟨fun w1 => lnumbers_any f w1⟩
  have hrC : Box ((w.alloc (.cells #[.int .i64 (f 0), .int .i64 (f 1), .int .i64 (f 2), .int .i64 (f 3), .int .i64 (f 4), .int .i64 (f 5), .int .i64 (f 6), .int .i64 (f 7), .int .i64 (f 8), .int .i64 (f 9), .int .i64 (f 10), .int .i64 (f 11)] 24)).rangeAt w.heap.size 0 [.int .i64 (f 0), .int .i64 (f 1), .int .i64 (f 2), .int .i64 (f 3), .int .i64 (f 4), .int .i64 (f 5), .int .i64 (f 6), .int .i64 (f 7), .int .i64 (f 8), .int .i64 (f 9), .int .i64 (f 10), .int .i64 (f 11)]) := ⟨range_at (cs := [.int .i64 (f 0), .int .i64 (f 1), .int .i64 (f 2), .int .i64 (f 3), .int .i64 (f 4), .int .i64 (f 5), .int .i64 (f 6), .int .i64 (f 7), .int .i64 (f 8), .int .i64 (f 9), .int .i64 (f 10), .int .i64 (f 11)]) (newblk w _) 0 _ (fun j v hj => by rw [Nat.zero_add]; exact hj)⟩
  have hx0 : Box (Ext w (w.alloc (.cells #[.int .i64 (f 0), .int .i64 (f 1), .int .i64 (f 2), .int .i64 (f 3), .int .i64 (f 4), .int .i64 (f 5), .int .i64 (f 6), .int .i64 (f 7), .int .i64 (f 8), .int .i64 (f 9), .int .i64 (f 10), .int .i64 (f 11)] 24))) := ⟨Ext.alloc (Below.refl _ _) _⟩
  replace h := Box.mk h
  go_enter Tryz.func9, Tryz.ntmps9
  go_wp2_with (first
    | (refine wpList_load_mid rfl 24 (.tmp 1) rfl w.heap.size 0 rfl [.int .i64 (f 0), .int .i64 (f 1), .int .i64 (f 2), .int .i64 (f 3), .int .i64 (f 4), .int .i64 (f 5), .int .i64 (f 6), .int .i64 (f 7), .int .i64 (f 8), .int .i64 (f 9), .int .i64 (f 10), .int .i64 (f 11)] dC hrC.out huC hdC infoRC ?_)
    | (go_at_call 22; (with_reducible refine (cn.out _).mono ?_); rintro e w1 ⟨⟨B, rfl, hq⟩, hb⟩; have hx1 := Box.mk (Ext.trans' hx0.out hb); replace hq := Box.mk hq; clear hb))
  go_loopw [4] (fun i wr => ∃ t : Nat, t ≤ 12 ∧ i = .int .i64 (t : Int) ∧ Box (∀ j, j < t → f j < 576460752303423488) ∧ Box (Ext w wr) ∧ Box (∀ j, j < 12 → wr.cell? ⟨B, j, none⟩ = some (.int .i64 (f j)))) (fun i _ => 12 - (intOf i).toNat)
  case atStart => exact ⟨0, by omega, rfl, ⟨fun j hj => by omega⟩, hx1, hq⟩
  case round =>
    clear hx1 hq
    obtain ⟨t, ht, rfl, hn, hx1, hq⟩ := hrel
    by_cases h12 : t < 12
    · have d1 : decide ((t : Int) < 12) = true := decide_eq_true (by omega)
      have d2 : (t : Int) < 12 := by omega
      have l2 := hq.out t h12
      by_cases hb : 576460752303423488 ≤ f t
      · as_aux_lemma =>
        have d3 : decide (576460752303423488 ≤ f t) = true := decide_eq_true hb
        go_wp2
        go_ret
        exact ⟨rfl, hx1.out⟩
      · as_aux_lemma =>
        have d3 : decide (576460752303423488 ≤ f t) = false := decide_eq_false hb
        have hn2 : Box (∀ j, j < t + 1 → f j < 576460752303423488) := ⟨fun j hj => by
          by_cases e : j = t
          · subst e; omega
          · exact hn.out j (by omega)⟩
        go_wp2
        go_roundw
        case rel => exact ⟨t + 1, by omega, by go_num, hn2, hx1, hq⟩
        case measure => simp [intOf]; omega
    · exfalso
      obtain ⟨i, hi, hbi⟩ := h.out
      have := hn.out i (by omega)
      omega
end Go.Proofs.YtcofejbkbcdopaaGreatDoor
