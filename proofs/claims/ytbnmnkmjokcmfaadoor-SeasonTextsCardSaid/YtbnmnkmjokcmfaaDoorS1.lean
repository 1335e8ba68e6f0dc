import Derived.Test.YtbnmnkmjokcmfaaDoorLib
import Derived.Test.YtbnmnkmjokcmfaaDoorFL
import Derived.Test.YtbnmnkmjokcmfaaDoorS0
import Derived.Deep.AppendLies
import Derived.Deep.RegionHeld3
import Derived.Deep.RegionLaw
/- season: power, of, back, sums. -/
namespace Go.Proofs.YtbnmnkmjokcmfaaDoor
open Go.RowKit

theorem cx4 {w : World} {B : Nat} {c0 c1 c2 c3 : Value} {T : TypeId} (h : w.heap[B]? = some (.cells #[c0, c1, c2, c3] T (0, 0))) :
    (w.cell? ⟨B, 0, none⟩ = some c0 ∧ w.cell? ⟨B, 1, none⟩ = some c1 ∧ w.cell? ⟨B, 2, none⟩ = some c2 ∧ w.cell? ⟨B, 3, none⟩ = some c3) ∧ w.frozen? ⟨B, 0, none⟩ = false ∧ w.frozen? ⟨B, 1, none⟩ = false ∧ w.frozen? ⟨B, 2, none⟩ = false ∧ w.frozen? ⟨B, 3, none⟩ = false := by
  refine ⟨⟨?_, ?_, ?_, ?_⟩, Lib.frozen_of_heap h 0, Lib.frozen_of_heap h 1, Lib.frozen_of_heap h 2, Lib.frozen_of_heap h 3⟩
  all_goals (rw [Lib.cell_of_heap h]; rfl)
theorem and3 (n : Int) : bits .and .i64 n 3 = n % 4 := by
  show IntKind.i64.wrap ((BitVec.ofInt 64 n &&& BitVec.ofInt 64 3).toNat : Int) = _
  rw [BitVec.toNat_and, show (BitVec.ofInt 64 3).toNat = 3 from rfl, nat_mask2, BitVec.toNat_ofInt, IntKind.wrap_i64]
  omega
set_option maxRecDepth 100000 in
theorem power_0 (n : Int) (h : n % 4 = 0) (w : World) : Calls Tryd.prog 60 #[.int .i64 n] w fun e w' => e = .returned (.complex .f64 (4607182418800017408) (0)) ∧ w = w' := by
  have hn : bits .and .i64 n 3 = 0 := by rw [and3, h]
  have hi : ∀ w : World, (Instr.index 85 (.agg #[(.complex .f64 (4607182418800017408) (0)), (.complex .f64 (0) (4607182418800017408)), (.complex .f64 (13830554455654793216) (0)), (.complex .f64 (0) (13830554455654793216))]) (.int .i64 0)).run Tryd.prog w = .ok (.complex .f64 (4607182418800017408) (0)) w := fun w => by kernel_rfl
  clear h
  go_enter Tryd.func60, Tryd.ntmps60
  go_wp2
  go_ret
  exact ⟨rfl, rfl⟩
set_option maxRecDepth 100000 in
theorem power_1 (n : Int) (h : n % 4 = 1) (w : World) : Calls Tryd.prog 60 #[.int .i64 n] w fun e w' => e = .returned (.complex .f64 (0) (4607182418800017408)) ∧ w = w' := by
  have hn : bits .and .i64 n 3 = 1 := by rw [and3, h]
  have hi : ∀ w : World, (Instr.index 85 (.agg #[(.complex .f64 (4607182418800017408) (0)), (.complex .f64 (0) (4607182418800017408)), (.complex .f64 (13830554455654793216) (0)), (.complex .f64 (0) (13830554455654793216))]) (.int .i64 1)).run Tryd.prog w = .ok (.complex .f64 (0) (4607182418800017408)) w := fun w => by kernel_rfl
  clear h
  go_enter Tryd.func60, Tryd.ntmps60
  go_wp2
  go_ret
  exact ⟨rfl, rfl⟩
set_option maxRecDepth 100000 in
theorem power_2 (n : Int) (h : n % 4 = 2) (w : World) : Calls Tryd.prog 60 #[.int .i64 n] w fun e w' => e = .returned (.complex .f64 (13830554455654793216) (0)) ∧ w = w' := by
  have hn : bits .and .i64 n 3 = 2 := by rw [and3, h]
  have hi : ∀ w : World, (Instr.index 85 (.agg #[(.complex .f64 (4607182418800017408) (0)), (.complex .f64 (0) (4607182418800017408)), (.complex .f64 (13830554455654793216) (0)), (.complex .f64 (0) (13830554455654793216))]) (.int .i64 2)).run Tryd.prog w = .ok (.complex .f64 (13830554455654793216) (0)) w := fun w => by kernel_rfl
  clear h
  go_enter Tryd.func60, Tryd.ntmps60
  go_wp2
  go_ret
  exact ⟨rfl, rfl⟩
set_option maxRecDepth 100000 in
theorem power_3 (n : Int) (h : n % 4 = 3) (w : World) : Calls Tryd.prog 60 #[.int .i64 n] w fun e w' => e = .returned (.complex .f64 (0) (13830554455654793216)) ∧ w = w' := by
  have hn : bits .and .i64 n 3 = 3 := by rw [and3, h]
  have hi : ∀ w : World, (Instr.index 85 (.agg #[(.complex .f64 (4607182418800017408) (0)), (.complex .f64 (0) (4607182418800017408)), (.complex .f64 (13830554455654793216) (0)), (.complex .f64 (0) (13830554455654793216))]) (.int .i64 3)).run Tryd.prog w = .ok (.complex .f64 (0) (13830554455654793216)) w := fun w => by kernel_rfl
  clear h
  go_enter Tryd.func60, Tryd.ntmps60
  go_wp2
  go_ret
  exact ⟨rfl, rfl⟩
/-- a power of i, its words -/
def pr (z : Int) : Nat := if z % 4 = 0 then 4607182418800017408 else if z % 4 = 2 then 13830554455654793216 else 0
def pi (z : Int) : Nat := if z % 4 = 1 then 4607182418800017408 else if z % 4 = 3 then 13830554455654793216 else 0
def cr (z : Int) : Int := if z % 4 = 0 then 1 else if z % 4 = 2 then -1 else 0
def ci (z : Int) : Int := if z % 4 = 1 then 1 else if z % 4 = 3 then -1 else 0
theorem four (z : Int) : z % 4 = 0 ∨ z % 4 = 1 ∨ z % 4 = 2 ∨ z % 4 = 3 := by omega
theorem power_any (z : Int) (w : World) : Calls Tryd.prog 60 #[.int .i64 z] w fun e w' => e = .returned (.complex .f64 (pr z) (pi z)) ∧ w = w' := by
  unfold pr pi
  rcases four z with h | h | h | h
  · have := power_0 z h w; simpa [h] using this
  · have := power_1 z h w; simpa [h] using this
  · have := power_2 z h w; simpa [h] using this
  · have := power_3 z h w; simpa [h] using this
theorem fl_pr (z : Int) : Fl (cr z) (pr z) ∧ Fl (ci z) (pi z) := by
  unfold cr pr ci pi
  rcases four z with h | h | h | h
  · simp only [h]; exact ⟨fl_one, fl_zero⟩
  · simp only [h]; exact ⟨fl_zero, fl_one⟩
  · simp only [h]; exact ⟨fl_minus, fl_zero⟩
  · simp only [h]; exact ⟨fl_zero, fl_minus⟩
theorem cr_lim (z : Int) : (cr z = 0 ∨ cr z = 1 ∨ cr z = -1) ∧ (ci z = 0 ∨ ci z = 1 ∨ ci z = -1) := by
  unfold cr ci
  rcases four z with h | h | h | h <;> simp [h]
/-- the first n terms of a sum -/
def sR (s : Int) (a b : Nat → Int) (k : Nat) : Nat → Int
  | 0 => 0
  | n + 1 => sR s a b k n + (a n * cr (s * n * k) - b n * ci (s * n * k))
def sI (s : Int) (a b : Nat → Int) (k : Nat) : Nat → Int
  | 0 => 0
  | n + 1 => sI s a b k n + (a n * ci (s * n * k) + b n * cr (s * n * k))
def Lim (B : Int) (z : Int) : Prop := -B ≤ z ∧ z ≤ B
theorem t_lim {a b c d : Int} (ha : Lim (2 ^ 44) a) (hb : Lim (2 ^ 44) b) (hc : c = 0 ∨ c = 1 ∨ c = -1) (hd : d = 0 ∨ d = 1 ∨ d = -1) :
    Lim (2 ^ 44) (a * c) ∧ Lim (2 ^ 44) (b * d) ∧ Lim (2 ^ 44) (a * d) ∧ Lim (2 ^ 44) (b * c) := by
  unfold Lim at *
  rcases hc with rfl | rfl | rfl <;> rcases hd with rfl | rfl | rfl <;> refine ⟨?_, ?_, ?_, ?_⟩ <;> omega
theorem s_lim {s : Int} {a b : Nat → Int} (k : Nat) (h : ∀ j, j < 4 → Lim (2 ^ 44) (a j) ∧ Lim (2 ^ 44) (b j)) : ∀ n : Nat, n ≤ 4 → Lim ((n : Int) * 2 ^ 45) (sR s a b k n) ∧ Lim ((n : Int) * 2 ^ 45) (sI s a b k n)
  | 0, _ => by unfold Lim sR sI; omega
  | n + 1, hn => by
    obtain ⟨h1, h2⟩ := s_lim (s := s) k h n (by omega)
    obtain ⟨q1, q2, q3, q4⟩ := t_lim (h n (by omega)).1 (h n (by omega)).2 (cr_lim (s * n * k)).1 (cr_lim (s * n * k)).2
    show Lim _ (sR s a b k n + (a n * cr (s * n * k) - b n * ci (s * n * k))) ∧ Lim _ (sI s a b k n + (a n * ci (s * n * k) + b n * cr (s * n * k)))
    unfold Lim at *
    omega
def Cells4 (r t : Nat → Nat) : Array Value := #[(.complex .f64 (r 0) (t 0)), (.complex .f64 (r 1) (t 1)), (.complex .f64 (r 2) (t 2)), (.complex .f64 (r 3) (t 3))]
theorem cells4_at (r t : Nat → Nat) (k : Nat) (hk : k < 4) : (Cells4 r t)[k]? = some (.complex .f64 (r k) (t k)) := by
  obtain rfl | rfl | rfl | rfl : k = 0 ∨ k = 1 ∨ k = 2 ∨ k = 3 := by omega
  all_goals rfl
theorem cells4_set (r t : Nat → Nat) (k x y : Nat) (hk : k < 4) : (Cells4 r t).setIfInBounds k (.complex .f64 (x) (y)) = Cells4 (fun m => if m = k then x else r m) (fun m => if m = k then y else t m) := by
  obtain rfl | rfl | rfl | rfl : k = 0 ∨ k = 1 ∨ k = 2 ∨ k = 3 := by omega
  all_goals rfl
/-- what the sums' cells hold while number k is summed up to n -/
def Sofar (s : Int) (a b : Nat → Int) (k n : Nat) (r t : Nat → Nat) : Prop :=
  ∀ m, m < 4 → if m < k then Fl (sR s a b m 4) (r m) ∧ Fl (sI s a b m 4) (t m) else if m = k then Fl (sR s a b k n) (r m) ∧ Fl (sI s a b k n) (t m) else r m = 0 ∧ t m = 0
theorem Sofar.next {s : Int} {a b : Nat → Int} {k : Nat} {r t : Nat → Nat} (h : Sofar s a b k 4 r t) : Sofar s a b (k + 1) 0 r t := by
  intro m hm
  have h1 := h m hm
  by_cases h2 : m < k
  · rw [if_pos h2] at h1; rw [if_pos (by omega)]; exact h1
  · rw [if_neg h2] at h1
    by_cases h3 : m = k
    · rw [if_pos h3] at h1; rw [if_pos (by omega)]; subst h3; exact h1
    · rw [if_neg h3] at h1; rw [if_neg (by omega)]
      rw [h1.1, h1.2]
      split
      · exact ⟨fl_zero, fl_zero⟩
      · exact ⟨rfl, rfl⟩
theorem Sofar.step {s : Int} {a b : Nat → Int} {k n x y : Nat} {r t : Nat → Nat} (h : Sofar s a b k n r t) (hx : Fl (sR s a b k (n + 1)) x) (hy : Fl (sI s a b k (n + 1)) y) :
    Sofar s a b k (n + 1) (fun m => if m = k then x else r m) (fun m => if m = k then y else t m) := by
  intro m hm
  have h1 := h m hm
  by_cases h2 : m < k
  · rw [if_pos h2] at h1; rw [if_pos h2]; simp only [if_neg (show ¬ m = k by omega)]; exact h1
  · rw [if_neg h2] at h1; rw [if_neg h2]
    by_cases h3 : m = k
    · rw [if_pos h3]; simp only [if_pos h3]; exact ⟨hx, hy⟩
    · rw [if_neg h3] at h1; rw [if_neg h3]; simp only [if_neg h3]; exact h1
set_option maxRecDepth 100000 in
set_option maxHeartbeats 8000000 in
theorem sums_any (s : Int) (hs : s = 1 ∨ s = -1) (a b : Nat → Int) (p q : Nat → Nat) (hF : ∀ j, j < 4 → Fl (a j) (p j) ∧ Fl (b j) (q j)) (hL : ∀ j, j < 4 → Lim (2 ^ 44) (a j) ∧ Lim (2 ^ 44) (b j)) (w : World) :
    Calls Tryd.prog 43 #[(.agg #[(.complex .f64 (p 0) (q 0)), (.complex .f64 (p 1) (q 1)), (.complex .f64 (p 2) (q 2)), (.complex .f64 (p 3) (q 3))]), .int .i64 s] w fun e w' => ∃ r t : Nat → Nat, e = .returned (.agg #[(.complex .f64 (r 0) (t 0)), (.complex .f64 (r 1) (t 1)), (.complex .f64 (r 2) (t 2)), (.complex .f64 (r 3) (t 3))]) ∧ (∀ k, k < 4 → Fl (sR s a b k 4) (r k) ∧ Fl (sI s a b k 4) (t k)) ∧ Ext w w' := by
  have hi : ∀ (j : Nat) (w : World), j < 4 → (Instr.index 85 (.agg #[(.complex .f64 (p 0) (q 0)), (.complex .f64 (p 1) (q 1)), (.complex .f64 (p 2) (q 2)), (.complex .f64 (p 3) (q 3))]) (.int .i64 (j : Int))).run Tryd.prog w = .ok (.complex .f64 (p j) (q j)) w := by
    intro j w hj
    obtain rfl | rfl | rfl | rfl : j = 0 ∨ j = 1 ∨ j = 2 ∨ j = 3 := by omega
    all_goals kernel_rfl
  have hst : ∀ (a : Addr) (p q : Nat) (m : Mode) (w : World), (store a (.complex .f64 p q) m).run Tryd.prog w = stored Tryd.prog w a (.complex .f64 p q) m := fun a p q m w => run_store Tryd.prog w a _ m rfl
  have cP : Box (∀ (z : Int) (w : World), _) := ⟨fun z w => power_any z w⟩
  have HI := Box.mk hi
  have HF := Box.mk hF
  have HL := Box.mk hL
  have HS := Box.mk hs
  clear hi hF hL hs
  go_enter Tryd.func43, Tryd.ntmps43
  go_wp2
  go_loopw [8] (fun i wr => ∃ k : Nat, k ≤ 4 ∧ i = .int .i64 k ∧ ∃ r t : Nat → Nat, Box (Sofar s a b k 0 r t) ∧ Box (wr.heap[w.heap.size + 1]? = some (.cells (Cells4 r t) 85 (0, 0))) ∧ Box (wr.heap[w.heap.size]? = some (.cells (Cells4 p q) 85 (0, 0))) ∧ Box (Ext w wr)) (fun i _ => 4 - (intOf i).toNat)
  case atStart =>
    refine ⟨0, by omega, rfl, fun _ => 0, fun _ => 0, ⟨fun m hm => ?_⟩, ⟨?_⟩, ⟨?_⟩, ⟨?_⟩⟩
    · rw [if_neg (by omega)]
      split
      · exact ⟨fl_zero, fl_zero⟩
      · exact ⟨rfl, rfl⟩
    · have h := newblk (w.alloc (.cells (Cells4 p q) 85)) (.cells (Cells4 (fun _ => 0) (fun _ => 0)) 85)
      rw [show (w.alloc (.cells (Cells4 p q) 85)).heap.size = w.heap.size + 1 by simp] at h
      exact h
    · exact Ext.blk (Ext.alloc (Below.refl _ _) _) (newblk w _)
    · exact Ext.alloc (Ext.alloc (Below.refl _ _) _) _
  case round =>
    obtain ⟨k, hk, rfl, r, t, hSo, hB, hM, hx⟩ := hrel
    by_cases hk4 : k < 4
    · obtain ⟨⟨m0, m1, m2, m3⟩, -⟩ := cx4 (show wr.heap[w.heap.size]? = some (.cells #[(.complex .f64 (p 0) (q 0)), (.complex .f64 (p 1) (q 1)), (.complex .f64 (p 2) (q 2)), (.complex .f64 (p 3) (q 3))] 85 (0, 0)) from hM.out)
      have n1 : (0 : Int) ≤ (k : Int) := by omega
      have n2 : (k : Int) < 4 := by omega
      have n2' : decide ((k : Int) < 4) = true := decide_eq_true n2
      go_wp2
      go_loopw [12] (fun i wx => ∃ j : Nat, j ≤ 4 ∧ i = .int .i64 j ∧ ∃ r t : Nat → Nat, Box (Sofar s a b k j r t) ∧ Box (wx.heap[w.heap.size + 1]? = some (.cells (Cells4 r t) 85 (0, 0))) ∧ Box (wx.heap[w.heap.size]? = some (.cells (Cells4 p q) 85 (0, 0))) ∧ Box (Ext w wx)) (fun i _ => 4 - (intOf i).toNat)
      case atStart => exact ⟨0, by omega, rfl, r, t, hSo, hB, hM, hx⟩
      case round =>
        obtain ⟨j, hj, rfl, r1, t1, hSo1, hB1, hM1, hx1⟩ := hrel
        by_cases hj4 : j < 4
        · have hij := fun w => HI.out j w hj4
          have hl := HL.out j hj4
          have hf := HF.out j hj4
          obtain ⟨q1, q2, q3, q4⟩ := t_lim hl.1 hl.2 (cr_lim (s * j * k)).1 (cr_lim (s * j * k)).2
          obtain ⟨q5, q6⟩ := s_lim (s := s) k HL.out j hj
          have hfp := fl_pr (s * j * k)
          unfold Lim at q1 q2 q3 q4 q5 q6
          obtain ⟨u, v, mm, fu, fv⟩ := cmul_fl hf.1 hf.2 hfp.1 hfp.2 (by omega) (by omega) (by omega) (by omega)
          have hS := hSo1.out k hk4
          rw [if_neg (Nat.lt_irrefl k), if_pos rfl] at hS
          obtain ⟨x, y, nn, fx, fy⟩ := csum_fl hS.1 hS.2 fu fv (by omega) (by omega)
          have g1 : -((3 : Nat) : Int) ≤ s * j ∧ s * j ≤ ((3 : Nat) : Int) := by
            rcases HS.out with h | h <;> rw [h] <;> omega
          have g2 := pb 3 3 g1 (c := (k : Int)) (by omega)
          have wr1 : IntKind.i64.wrap (s * j) = s * j := by rw [IntKind.wrap_i64]; omega
          have wr2 : IntKind.i64.wrap (s * j * k) = s * j * k := by rw [IntKind.wrap_i64]; omega
          have hck : wr.cell? ⟨w.heap.size + 1, k, none⟩ = some (.complex .f64 (r1 k) (t1 k)) := by rw [Lib.cell_of_heap hB1.out]; exact cells4_at r1 t1 k hk4
          have hfz : wr.frozen? ⟨w.heap.size + 1, k, none⟩ = false := Lib.frozen_of_heap hB1.out k
          have HX := Box.mk fx; have HY := Box.mk fy
          clear hl hf q1 q2 q3 q4 q5 q6 hfp fu fv hS fx fy g1 g2
          have n3 : (0 : Int) ≤ (j : Int) := by omega
          have n4 : (j : Int) < 4 := by omega
          go_wp2
          apply cutX
          case k =>
            intro H
            go_region_law (first
              | (go_simp; go_at_call 60; (with_reducible refine (cP.out _ _).mono ?_); rintro e w' ⟨rfl, rfl⟩))
            all_goals exact H
          go_wp2
          go_roundw
          case rel =>
            refine ⟨j + 1, by omega, by go_num, _, _, ⟨hSo1.out.step HX.out HY.out⟩, ⟨?_⟩, ⟨?_⟩, ⟨?_⟩⟩
            · rw [← cells4_set r1 t1 k x y hk4]
              exact Ext.blk (Ext.drew1 (Below.refl _ _)) (heap_setCell_same _ (w.heap.size + 1) k _ _ _ hB1.out)
            · exact Ext.blk (Ext.drew1 (Below.refl _ _)) ((heap_setCell_other _ _ _ _ (by show w.heap.size ≠ w.heap.size + 1; omega)).trans hM1.out)
            · exact Ext.drew1 (Below.setCell hx1.out (p := ⟨w.heap.size + 1, k, none⟩) (by simp) _)
          case measure => simp [intOf]; omega
        · obtain rfl : j = 4 := by omega
          go_wp2
          go_roundw
          case rel => exact ⟨k + 1, by omega, by go_num, r1, t1, ⟨hSo1.out.next⟩, hB1, hM1, hx1⟩
          case measure => simp [intOf]; omega
    · obtain rfl : k = 4 := by omega
      obtain ⟨⟨o0, o1, o2, o3⟩, z0, z1, z2, z3⟩ := cx4 (show wr.heap[w.heap.size + 1]? = some (.cells #[(.complex .f64 (r 0) (t 0)), (.complex .f64 (r 1) (t 1)), (.complex .f64 (r 2) (t 2)), (.complex .f64 (r 3) (t 3))] 85 (0, 0)) from hB.out)
      go_wp2
      refine bodyPost_ret (v := (.agg #[(.complex .f64 (r 0) (t 0)), (.complex .f64 (r 1) (t 1)), (.complex .f64 (r 2) (t 2)), (.complex .f64 (r 3) (t 3))])) ?_ rfl ⟨r, t, rfl, ?_, ?_⟩
      · simp [results, Tryd.results43, go_sem, o0, o1, o2, o3]
      · intro m hm
        have h := hSo.out m hm
        rw [if_pos (by omega)] at h
        exact h
      · exact Below.setCell (Below.setCell (Below.setCell (Below.setCell hx.out (p := ⟨w.heap.size + 1, 0, none⟩) (by simp) _) (p := ⟨w.heap.size + 1, 1, none⟩) (by simp) _) (p := ⟨w.heap.size + 1, 2, none⟩) (by simp) _) (p := ⟨w.heap.size + 1, 3, none⟩) (by simp) _
set_option maxRecDepth 100000 in
set_option maxHeartbeats 4000000 in
theorem of_any (a0 b0 a1 b1 a2 b2 a3 b3 : Int) (w : World) : Calls Tryd.prog 44 #[.agg #[.int .i64 a0, .int .i64 b0, .int .i64 a1, .int .i64 b1, .int .i64 a2, .int .i64 b2, .int .i64 a3, .int .i64 b3]] w fun e w' => e = .returned (.agg #[(.complex .f64 (floatOfInt .f64 a0) (floatOfInt .f64 b0)), (.complex .f64 (floatOfInt .f64 a1) (floatOfInt .f64 b1)), (.complex .f64 (floatOfInt .f64 a2) (floatOfInt .f64 b2)), (.complex .f64 (floatOfInt .f64 a3) (floatOfInt .f64 b3))]) ∧ Ext w w' := by
  have hx : Ext w w := Below.refl _ _
  have i0 : ∀ w : World, (Instr.index 29 (.agg #[.int .i64 a0, .int .i64 b0, .int .i64 a1, .int .i64 b1, .int .i64 a2, .int .i64 b2, .int .i64 a3, .int .i64 b3]) (.int .i64 0)).run Tryd.prog w = .ok (.agg #[.int .i64 a0, .int .i64 b0]) w := fun w => by kernel_rfl
  have i1 : ∀ w : World, (Instr.index 29 (.agg #[.int .i64 a0, .int .i64 b0, .int .i64 a1, .int .i64 b1, .int .i64 a2, .int .i64 b2, .int .i64 a3, .int .i64 b3]) (.int .i64 1)).run Tryd.prog w = .ok (.agg #[.int .i64 a1, .int .i64 b1]) w := fun w => by kernel_rfl
  have i2 : ∀ w : World, (Instr.index 29 (.agg #[.int .i64 a0, .int .i64 b0, .int .i64 a1, .int .i64 b1, .int .i64 a2, .int .i64 b2, .int .i64 a3, .int .i64 b3]) (.int .i64 2)).run Tryd.prog w = .ok (.agg #[.int .i64 a2, .int .i64 b2]) w := fun w => by kernel_rfl
  have i3 : ∀ w : World, (Instr.index 29 (.agg #[.int .i64 a0, .int .i64 b0, .int .i64 a1, .int .i64 b1, .int .i64 a2, .int .i64 b2, .int .i64 a3, .int .i64 b3]) (.int .i64 3)).run Tryd.prog w = .ok (.agg #[.int .i64 a3, .int .i64 b3]) w := fun w => by kernel_rfl
  have hst : ∀ (a : Addr) (p q : Nat) (m : Mode) (w : World), (store a (.complex .f64 p q) m).run Tryd.prog w = stored Tryd.prog w a (.complex .f64 p q) m := fun a p q m w => run_store Tryd.prog w a _ m rfl
  go_enter Tryd.func44, Tryd.ntmps44
  go_wp2
  refine wp_loop_rounds 5 ?_
  repeat any_goals (rw [rounds_succ]; go_wp2)
  refine bodyPost_ret (v := .agg #[(.complex .f64 (floatOfInt .f64 a0) (floatOfInt .f64 b0)), (.complex .f64 (floatOfInt .f64 a1) (floatOfInt .f64 b1)), (.complex .f64 (floatOfInt .f64 a2) (floatOfInt .f64 b2)), (.complex .f64 (floatOfInt .f64 a3) (floatOfInt .f64 b3))]) ?_ rfl ⟨rfl, by go_grown⟩
  simp [results, Tryd.results44, go_sem]
set_option maxRecDepth 100000 in
set_option maxHeartbeats 4000000 in
theorem back_any (a0 b0 a1 b1 a2 b2 a3 b3 : Int) (p0 q0 p1 q1 p2 q2 p3 q3 : Nat) (h0 : Fl a0 p0 ∧ Fl b0 q0) (k0 : (-(2 ^ 60) ≤ a0 ∧ a0 ≤ 2 ^ 60) ∧ (-(2 ^ 60) ≤ b0 ∧ b0 ≤ 2 ^ 60)) (h1 : Fl a1 p1 ∧ Fl b1 q1) (k1 : (-(2 ^ 60) ≤ a1 ∧ a1 ≤ 2 ^ 60) ∧ (-(2 ^ 60) ≤ b1 ∧ b1 ≤ 2 ^ 60)) (h2 : Fl a2 p2 ∧ Fl b2 q2) (k2 : (-(2 ^ 60) ≤ a2 ∧ a2 ≤ 2 ^ 60) ∧ (-(2 ^ 60) ≤ b2 ∧ b2 ≤ 2 ^ 60)) (h3 : Fl a3 p3 ∧ Fl b3 q3) (k3 : (-(2 ^ 60) ≤ a3 ∧ a3 ≤ 2 ^ 60) ∧ (-(2 ^ 60) ≤ b3 ∧ b3 ≤ 2 ^ 60)) (w : World) : Calls Tryd.prog 42 #[.agg #[(.complex .f64 (p0) (q0)), (.complex .f64 (p1) (q1)), (.complex .f64 (p2) (q2)), (.complex .f64 (p3) (q3))]] w fun e w' => e = .returned (.agg #[.int .i64 a0, .int .i64 b0, .int .i64 a1, .int .i64 b1, .int .i64 a2, .int .i64 b2, .int .i64 a3, .int .i64 b3]) ∧ Ext w w' := by
  have f0 : ∀ w : World, _ := fun w => fl_conv (P := Tryd.prog) (src := 102) (dst := 3) (by kernel_rfl) Tryd.underlying3 h0.1 k0.1 w
  have g0 : ∀ w : World, _ := fun w => fl_conv (P := Tryd.prog) (src := 102) (dst := 3) (by kernel_rfl) Tryd.underlying3 h0.2 k0.2 w
  have f1 : ∀ w : World, _ := fun w => fl_conv (P := Tryd.prog) (src := 102) (dst := 3) (by kernel_rfl) Tryd.underlying3 h1.1 k1.1 w
  have g1 : ∀ w : World, _ := fun w => fl_conv (P := Tryd.prog) (src := 102) (dst := 3) (by kernel_rfl) Tryd.underlying3 h1.2 k1.2 w
  have f2 : ∀ w : World, _ := fun w => fl_conv (P := Tryd.prog) (src := 102) (dst := 3) (by kernel_rfl) Tryd.underlying3 h2.1 k2.1 w
  have g2 : ∀ w : World, _ := fun w => fl_conv (P := Tryd.prog) (src := 102) (dst := 3) (by kernel_rfl) Tryd.underlying3 h2.2 k2.2 w
  have f3 : ∀ w : World, _ := fun w => fl_conv (P := Tryd.prog) (src := 102) (dst := 3) (by kernel_rfl) Tryd.underlying3 h3.1 k3.1 w
  have g3 : ∀ w : World, _ := fun w => fl_conv (P := Tryd.prog) (src := 102) (dst := 3) (by kernel_rfl) Tryd.underlying3 h3.2 k3.2 w
  have hx : Ext w w := Below.refl _ _
  clear h0 h1 h2 h3 k0 k1 k2 k3
  have i0 : ∀ w : World, (Instr.index 85 (.agg #[(.complex .f64 (p0) (q0)), (.complex .f64 (p1) (q1)), (.complex .f64 (p2) (q2)), (.complex .f64 (p3) (q3))]) (.int .i64 0)).run Tryd.prog w = .ok (.complex .f64 (p0) (q0)) w := fun w => by kernel_rfl
  have i1 : ∀ w : World, (Instr.index 85 (.agg #[(.complex .f64 (p0) (q0)), (.complex .f64 (p1) (q1)), (.complex .f64 (p2) (q2)), (.complex .f64 (p3) (q3))]) (.int .i64 1)).run Tryd.prog w = .ok (.complex .f64 (p1) (q1)) w := fun w => by kernel_rfl
  have i2 : ∀ w : World, (Instr.index 85 (.agg #[(.complex .f64 (p0) (q0)), (.complex .f64 (p1) (q1)), (.complex .f64 (p2) (q2)), (.complex .f64 (p3) (q3))]) (.int .i64 2)).run Tryd.prog w = .ok (.complex .f64 (p2) (q2)) w := fun w => by kernel_rfl
  have i3 : ∀ w : World, (Instr.index 85 (.agg #[(.complex .f64 (p0) (q0)), (.complex .f64 (p1) (q1)), (.complex .f64 (p2) (q2)), (.complex .f64 (p3) (q3))]) (.int .i64 3)).run Tryd.prog w = .ok (.complex .f64 (p3) (q3)) w := fun w => by kernel_rfl
  go_enter Tryd.func42, Tryd.ntmps42
  go_wp2
  refine wp_loop_rounds 5 ?_
  repeat any_goals (rw [rounds_succ]; go_wp2)
  refine bodyPost_ret (v := .agg #[.int .i64 a0, .int .i64 b0, .int .i64 a1, .int .i64 b1, .int .i64 a2, .int .i64 b2, .int .i64 a3, .int .i64 b3]) ?_ rfl ⟨rfl, by go_grown⟩
  simp [results, Tryd.results42, go_sem]
end Go.Proofs.YtbnmnkmjokcmfaaDoor
