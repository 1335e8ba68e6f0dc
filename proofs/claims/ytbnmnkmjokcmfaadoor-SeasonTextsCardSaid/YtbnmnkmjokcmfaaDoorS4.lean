import Derived.Test.YtbnmnkmjokcmfaaDoorS3
/- season: Inverse. -/
namespace Go.Proofs.YtbnmnkmjokcmfaaDoor
open Go.RowKit
set_option maxRecDepth 100000 in
set_option maxHeartbeats 4000000 in
theorem inverse_bad (a b : Nat → Int) (w : World) (hv : allV a b 4 = false) :
    Calls Tryd.prog 14 #[(.agg #[.int .i64 (a 0), .int .i64 (b 0), .int .i64 (a 1), .int .i64 (b 1), .int .i64 (a 2), .int .i64 (b 2), .int .i64 (a 3), .int .i64 (b 3)])] w fun e w' => e = .returned (.tuple #[.agg #[.int .i64 0, .int .i64 0, .int .i64 0, .int .i64 0, .int .i64 0, .int .i64 0, .int .i64 0, .int .i64 0], .int .i64 2]) ∧ Ext w w' := by
  obtain ⟨hx, hA, hB⟩ := w8 w a b
  have cv : Box (∀ w', w'.heap[w.heap.size]? = some (.cells #[.int .i64 (a 0), .int .i64 (b 0), .int .i64 (a 1), .int .i64 (b 1), .int .i64 (a 2), .int .i64 (b 2), .int .i64 (a 3), .int .i64 (b 3)] 29 (0, 0)) → Calls Tryd.prog 36 #[.slice (some ⟨w.heap.size, 0, none⟩) 4 4] w' fun e w'' => e = .returned (.bool false) ∧ Ext w' w'') := ⟨fun w' h => by rw [← hv]; exact valid_4 _ a b w' _ h⟩
  have HA := Box.mk hA
  obtain ⟨⟨o0, o1, o2, o3, o4, o5, o6, o7⟩, z0, z1, z2, z3, z4, z5, z6, z7⟩ := cx8 hB
  clear hA hv
  go_enter Tryd.func14, Tryd.ntmps14
  go_wp2_with (first
    | (go_at_call 36; (with_reducible refine (cv.out _ HA.out).mono ?_); rintro e w1 ⟨rfl, hb⟩; have hx := Ext.trans' hx hb; have hB := Ext.blk hb hB; clear o0 o1 o2 o3 o4 o5 o6 o7 z0 z1 z2 z3 z4 z5 z6 z7; obtain ⟨⟨o0, o1, o2, o3, o4, o5, o6, o7⟩, z0, z1, z2, z3, z4, z5, z6, z7⟩ := cx8 hB))
  refine bodyPost_ret (v := .tuple #[.agg #[.int .i64 0, .int .i64 0, .int .i64 0, .int .i64 0, .int .i64 0, .int .i64 0, .int .i64 0, .int .i64 0], .int .i64 2]) ?_ rfl ⟨rfl, Ext.st8 hx (by simp) _ _ _ _ _ _ _ _⟩
  simp [results, Tryd.results14, go_sem, o0, o1, o2, o3, o4, o5, o6, o7]
/-- is number k a multiple of 4 -/
def wh (u v : Nat → Int) (k : Nat) : Bool := decide ((u k).tmod 4 = 0) && decide ((v k).tmod 4 = 0)
def allWh (u v : Nat → Int) (n : Nat) : Bool := (List.range n).all (wh u v)
theorem allWh_iff {u v : Nat → Int} {n : Nat} : allWh u v n = true ↔ ∀ j, j < n → wh u v j = true := by
  unfold allWh; simp [List.all_eq_true]
theorem allWh_no {u v : Nat → Int} {n k : Nat} (hk : k < n) (h : wh u v k = false) : allWh u v n = false := by
  cases hv : allWh u v n with
  | false => rfl
  | true => rw [allWh_iff.1 hv k hk] at h; cases h
def qt (u : Nat → Int) (k : Nat) : Int := (u k).tdiv 4
def qk (u : Nat → Int) (n k : Nat) : Int := if k < n then (u k).tdiv 4 else u k
theorem cells8_qk (u v : Nat → Int) (k : Nat) (hk : k < 4) : Cells8 (qk u (k + 1)) (qk v (k + 1)) = ((Cells8 (qk u k) (qk v k)).setIfInBounds (k * 2) (.int .i64 ((u k).tdiv 4))).setIfInBounds (k * 2 + 1) (.int .i64 ((v k).tdiv 4)) := by
  rw [cells8_set _ _ _ _ _ hk]
  refine cells8_eq fun m hm => ?_
  unfold qk
  by_cases h : m = k
  · subst h; simp
  · by_cases h2 : m < k
    · simp [h, h2, show m < k + 1 by omega]
    · simp [h, h2, show ¬ m < k + 1 by omega]
def IPost (w : World) (u v : Nat → Int) (e : Ending) (w' : World) : Prop :=
  e = .returned (if allWh u v 4 = true then .tuple #[(.agg #[.int .i64 (qt u 0), .int .i64 (qt v 0), .int .i64 (qt u 1), .int .i64 (qt v 1), .int .i64 (qt u 2), .int .i64 (qt v 2), .int .i64 (qt u 3), .int .i64 (qt v 3)]), .int .i64 0] else .tuple #[.agg #[.int .i64 0, .int .i64 0, .int .i64 0, .int .i64 0, .int .i64 0, .int .i64 0, .int .i64 0, .int .i64 0], .int .i64 10]) ∧ Ext w w'
theorem inv_lim {a b : Nat → Int} (h : allV a b 4 = true) (k : Nat) : (-(2 ^ 60) ≤ iR a b k ∧ iR a b k ≤ 2 ^ 60) ∧ (-(2 ^ 60) ≤ iI a b k ∧ iI a b k ≤ 2 ^ 60) := by
  have hL : ∀ j, j < 4 → Lim (2 ^ 44) (a j) ∧ Lim (2 ^ 44) (b j) := fun j hj => by
    have := (fw_fl h j hj).2
    unfold Lim at *; omega
  have := s_lim (s := 1) k hL 4 (by omega)
  unfold Lim at this
  unfold iR iI
  omega
set_option maxRecDepth 100000 in
set_option maxHeartbeats 4000000 in
theorem inverse_ok (a b : Nat → Int) (w : World) (hv : allV a b 4 = true) :
    Calls Tryd.prog 14 #[(.agg #[.int .i64 (a 0), .int .i64 (b 0), .int .i64 (a 1), .int .i64 (b 1), .int .i64 (a 2), .int .i64 (b 2), .int .i64 (a 3), .int .i64 (b 3)])] w (IPost w (iR a b) (iI a b)) := by
  obtain ⟨hx, hA, hB⟩ := w8 w a b
  have cv : Box (∀ w', w'.heap[w.heap.size]? = some (.cells #[.int .i64 (a 0), .int .i64 (b 0), .int .i64 (a 1), .int .i64 (b 1), .int .i64 (a 2), .int .i64 (b 2), .int .i64 (a 3), .int .i64 (b 3)] 29 (0, 0)) → Calls Tryd.prog 36 #[.slice (some ⟨w.heap.size, 0, none⟩) 4 4] w' fun e w'' => e = .returned (.bool true) ∧ Ext w' w'') := ⟨fun w' h => by rw [← hv]; exact valid_4 _ a b w' _ h⟩
  have co : Box (∀ w', _) := ⟨fun w' => of_4 a b w'⟩
  have hL : ∀ j, j < 4 → Lim (2 ^ 44) (a j) ∧ Lim (2 ^ 44) (b j) := fun j hj => by
    have := (fw_fl hv j hj).2
    unfold Lim at *; omega
  have cs : Box (∀ w', Calls Tryd.prog 43 #[(.agg #[(.complex .f64 (fw a 0) (fw b 0)), (.complex .f64 (fw a 1) (fw b 1)), (.complex .f64 (fw a 2) (fw b 2)), (.complex .f64 (fw a 3) (fw b 3))]), .int .i64 1] w' fun e w'' => ∃ r t : Nat → Nat, e = .returned (.agg #[(.complex .f64 (r 0) (t 0)), (.complex .f64 (r 1) (t 1)), (.complex .f64 (r 2) (t 2)), (.complex .f64 (r 3) (t 3))]) ∧ (∀ k, k < 4 → Fl (iR a b k) (r k) ∧ Fl (iI a b k) (t k)) ∧ Ext w' w'') := ⟨fun w' => sums_any 1 (Or.inl rfl) a b (fw a) (fw b) (fun j hj => (fw_fl hv j hj).1) hL w'⟩
  have hlim := inv_lim hv
  have cb : Box (∀ (r t : Nat → Nat) (w' : World), (∀ k, k < 4 → Fl (iR a b k) (r k) ∧ Fl (iI a b k) (t k)) → Calls Tryd.prog 42 #[(.agg #[(.complex .f64 (r 0) (t 0)), (.complex .f64 (r 1) (t 1)), (.complex .f64 (r 2) (t 2)), (.complex .f64 (r 3) (t 3))])] w' fun e w'' => e = .returned (.agg #[.int .i64 (iR a b 0), .int .i64 (iI a b 0), .int .i64 (iR a b 1), .int .i64 (iI a b 1), .int .i64 (iR a b 2), .int .i64 (iI a b 2), .int .i64 (iR a b 3), .int .i64 (iI a b 3)]) ∧ Ext w' w'') := ⟨fun r t w' h => back_4 (iR a b) (iI a b) r t h (fun k hk => hlim k) w'⟩
  generalize iR a b = u at *
  generalize iI a b = v at *
  generalize fw a = fa at *
  generalize fw b = fb at *
  obtain ⟨⟨m0, m1, m2, m3, m4, m5, m6, m7⟩, -⟩ := cx8 hA
  have HLim := Box.mk hlim
  have hi : ∀ (j : Nat) (w : World), j < 4 → (Instr.index 29 (.agg #[.int .i64 (u 0), .int .i64 (v 0), .int .i64 (u 1), .int .i64 (v 1), .int .i64 (u 2), .int .i64 (v 2), .int .i64 (u 3), .int .i64 (v 3)]) (.int .i64 (j : Int))).run Tryd.prog w = .ok (.agg #[.int .i64 (u j), .int .i64 (v j)]) w := by
    intro j w hj
    obtain rfl | rfl | rfl | rfl : j = 0 ∨ j = 1 ∨ j = 2 ∨ j = 3 := by omega
    all_goals kernel_rfl
  have HI := Box.mk hi
  obtain ⟨Post, hPost⟩ : ∃ P, P = IPost w u v := ⟨_, rfl⟩
  rw [← hPost]
  have HP := Box.mk hPost
  clear hv hL hlim hi hPost
  go_enter Tryd.func14, Tryd.ntmps14
  go_wp2_with (first
    | (go_at_call 36; (with_reducible refine (cv.out _ hA).mono ?_); rintro e w1 ⟨rfl, hb⟩; have hx := Ext.trans' hx hb; have hA := Ext.blk hb hA; have hB := Ext.blk hb hB; clear m0 m1 m2 m3 m4 m5 m6 m7; obtain ⟨⟨m0, m1, m2, m3, m4, m5, m6, m7⟩, -⟩ := cx8 hA)
    | (go_at_call 44; (with_reducible refine (co.out _).mono ?_); rintro e w1 ⟨rfl, hb⟩; have hx := Ext.trans' hx hb; have hB := Ext.blk hb hB; clear m0 m1 m2 m3 m4 m5 m6 m7)
    | (go_at_call 43; (with_reducible refine (cs.out _).mono ?_); rintro e w1 ⟨r, t, rfl, hF, hb⟩; have hF := Box.mk hF; have hx := Ext.trans' hx hb; have hB := Ext.blk hb hB)
    | (go_at_call 42; (with_reducible refine (cb.out _ _ _ hF.out).mono ?_); rintro e w4 ⟨rfl, hb⟩; have hx := Ext.trans' hx hb; have hB := Ext.blk hb hB; have hx4 := Box.mk (Ext.alloc hx (.cells #[.int .i64 (u 0), .int .i64 (v 0), .int .i64 (u 1), .int .i64 (v 1), .int .i64 (u 2), .int .i64 (v 2), .int .i64 (u 3), .int .i64 (v 3)] 29)); have hB4 := Box.mk (Ext.blk (Ext.alloc (Below.refl _ _) (.cells #[.int .i64 (u 0), .int .i64 (v 0), .int .i64 (u 1), .int .i64 (v 1), .int .i64 (u 2), .int .i64 (v 2), .int .i64 (u 3), .int .i64 (v 3)] 29)) hB); have hD := newblk w4 (.cells #[.int .i64 (u 0), .int .i64 (v 0), .int .i64 (u 1), .int .i64 (v 1), .int .i64 (u 2), .int .i64 (v 2), .int .i64 (u 3), .int .i64 (v 3)] 29); obtain ⟨⟨m0, m1, m2, m3, m4, m5, m6, m7⟩, -⟩ := cx8 hD))
  have hD4 : Box ((w4.alloc (.cells #[.int .i64 (u 0), .int .i64 (v 0), .int .i64 (u 1), .int .i64 (v 1), .int .i64 (u 2), .int .i64 (v 2), .int .i64 (u 3), .int .i64 (v 3)] 29)).heap[w4.heap.size]? = some (.cells (Cells8 (qk u 0) (qk v 0)) 29 (0, 0))) := ⟨hD⟩
  have hne : w.heap.size + 1 < w4.heap.size := by have := blk_lt hB; omega
  generalize w4.heap.size = D at *
  clear hB hx hb hF hD m0 m1 m2 m3 m4 m5 m6 m7
  go_loopw [16] (fun i wr => ∃ k : Nat, k ≤ 4 ∧ i = .int .i64 k ∧ Box (∀ j, j < k → wh u v j = true) ∧ Box (wr.heap[D]? = some (.cells (Cells8 (qk u k) (qk v k)) 29 (0, 0))) ∧ Box (wr.heap[w.heap.size + 1]? = some (.cells #[.int .i64 0, .int .i64 0, .int .i64 0, .int .i64 0, .int .i64 0, .int .i64 0, .int .i64 0, .int .i64 0] 29 (0, 0))) ∧ Box (Ext w wr)) (fun i _ => 4 - (intOf i).toNat)
  case atStart => exact ⟨0, by omega, rfl, ⟨fun j hj => by omega⟩, hD4, hB4, hx4⟩
  case round =>
    obtain ⟨k, hk, rfl, hwh, hD, hB, hE⟩ := hrel
    by_cases hk4 : k < 4
    · have hij := fun w => HI.out k w hk4
      have n1 : (0 : Int) ≤ (k : Int) := by omega
      have n2 : (k : Int) < 4 := by omega
      have n2' : decide ((k : Int) < 4) = true := decide_eq_true n2
      have hl := HLim.out k
      have hEa := Box.mk (Ext.alloc (Below.refl _ wr) (.cells #[.int .i64 (u k), .int .i64 (v k)] 23))
      have hD2 := Box.mk (Ext.blk hEa.out hD.out)
      have hB2 := Box.mk (Ext.blk hEa.out hB.out)
      have hE2 := Box.mk (Ext.trans' hE.out hEa.out)
      have w1 : IntKind.i64.wrap ((u k).tmod 4) = (u k).tmod 4 := by rw [IntKind.wrap_i64]; have := Int.tmod_lt_of_pos (u k) (show (0:Int) < 4 by decide); have := Int.lt_tmod_of_pos (u k) (show (0:Int) < 4 by decide); omega
      have w2 : IntKind.i64.wrap ((v k).tmod 4) = (v k).tmod 4 := by rw [IntKind.wrap_i64]; have := Int.tmod_lt_of_pos (v k) (show (0:Int) < 4 by decide); have := Int.lt_tmod_of_pos (v k) (show (0:Int) < 4 by decide); omega
      cases hw : wh u v k with
      | true =>
        have hw' := hw
        unfold wh at hw'
        simp only [Bool.and_eq_true, decide_eq_true_eq] at hw'
        have e1 : ((u k).tmod 4 != 0) = false := by rw [hw'.1]; rfl
        have e2 : ((v k).tmod 4 != 0) = false := by rw [hw'.2]; rfl
        have hwh2 : Box (∀ j, j < k + 1 → wh u v j = true) := ⟨fun j hj => by
          by_cases e : j = k
          · subst e; exact hw
          · exact hwh.out j (by omega)⟩
        have q1 : IntKind.i64.wrap ((u k).tdiv 4) = (u k).tdiv 4 := by rw [IntKind.wrap_i64]; have := Int.mul_tdiv_add_tmod (u k) 4; omega
        have q2 : IntKind.i64.wrap ((v k).tdiv 4) = (v k).tdiv 4 := by rw [IntKind.wrap_i64]; have := Int.mul_tdiv_add_tmod (v k) 4; omega
        have hst := Box.mk (cells8_qk u v k hk4)
        have c0 : ∃ z, (wr.alloc (.cells #[.int .i64 (u k), .int .i64 (v k)] 23)).cell? ⟨D, k * 2, none⟩ = some z := by
          rw [Lib.cell_of_heap hD2.out]
          obtain rfl | rfl | rfl | rfl : k = 0 ∨ k = 1 ∨ k = 2 ∨ k = 3 := by omega
          all_goals exact ⟨_, rfl⟩
        have c1 : ∃ z, (wr.alloc (.cells #[.int .i64 (u k), .int .i64 (v k)] 23)).cell? ⟨D, k * 2 + 1, none⟩ = some z := by
          rw [Lib.cell_of_heap hD2.out]
          obtain rfl | rfl | rfl | rfl : k = 0 ∨ k = 1 ∨ k = 2 ∨ k = 3 := by omega
          all_goals exact ⟨_, rfl⟩
        obtain ⟨v0, c0⟩ := c0
        obtain ⟨v1, c1⟩ := c1
        have f0 := Lib.frozen_of_heap hD2.out (k * 2)
        have f1 := Lib.frozen_of_heap hD2.out (k * 2 + 1)
        clear hw hw' hl
        generalize u k = x at *
        generalize v k = y at *
        go_wp2
        go_roundw
        case rel =>
          refine ⟨k + 1, by omega, by go_num, hwh2, ⟨?_⟩, ⟨?_⟩, ⟨?_⟩⟩
          · rw [hst.out]
            exact heap_setCell_same _ D (k * 2 + 1) _ _ _ (heap_setCell_same _ D (k * 2) _ _ _ hD2.out)
          · exact (heap_setCell_other _ _ _ _ (by show w.heap.size + 1 ≠ D; omega)).trans ((heap_setCell_other _ _ _ _ (by show w.heap.size + 1 ≠ D; omega)).trans hB2.out)
          · exact Ext.set (Ext.set hE2.out (by omega) _ _) (by omega) _ _
        case measure => simp [intOf]; omega
      | false =>
        have hno := Box.mk (allWh_no hk4 hw)
        have key : ((u k).tmod 4 != 0) = true ∨ (((u k).tmod 4 != 0) = false ∧ ((v k).tmod 4 != 0) = true) := by
          unfold wh at hw
          by_cases h1 : (u k).tmod 4 = 0
          · by_cases h2 : (v k).tmod 4 = 0
            · rw [h1, h2] at hw; cases hw
            · exact Or.inr ⟨by rw [h1]; rfl, by rw [bne_iff_ne]; exact h2⟩
          · exact Or.inl (by rw [bne_iff_ne]; exact h1)
        obtain ⟨⟨o0, o1, o2, o3, o4, o5, o6, o7⟩, z0, z1, z2, z3, z4, z5, z6, z7⟩ := cx8 hB2.out
        clear hw hl
        generalize u k = x at *
        generalize v k = y at *
        rcases key with e1 | ⟨e1, e2⟩
        all_goals
          go_wp2
          refine bodyPost_ret (v := .tuple #[.agg #[.int .i64 0, .int .i64 0, .int .i64 0, .int .i64 0, .int .i64 0, .int .i64 0, .int .i64 0, .int .i64 0], .int .i64 10]) ?_ rfl ?_
          · simp [results, Tryd.results14, go_sem, o0, o1, o2, o3, o4, o5, o6, o7]
          · rw [HP.out]
            unfold IPost
            rw [hno.out]
            exact ⟨rfl, Ext.st8 hE2.out (by omega) _ _ _ _ _ _ _ _⟩
    · obtain rfl : k = 4 := by omega
      have hyes := Box.mk (allWh_iff.2 hwh.out)
      have hD4 : wr.heap[D]? = some (.cells #[.int .i64 (qt u 0), .int .i64 (qt v 0), .int .i64 (qt u 1), .int .i64 (qt v 1), .int .i64 (qt u 2), .int .i64 (qt v 2), .int .i64 (qt u 3), .int .i64 (qt v 3)] 29 (0, 0)) := by
        rw [hD.out]
        rw [cells8_eq (c := qt u) (d := qt v) fun m hm => ⟨by unfold qk; rw [if_pos hm]; rfl, by unfold qk; rw [if_pos hm]; rfl⟩]
        rfl
      obtain ⟨⟨m0, m1, m2, m3, m4, m5, m6, m7⟩, -⟩ := cx8 hD4
      obtain ⟨⟨o0, o1, o2, o3, o4, o5, o6, o7⟩, z0, z1, z2, z3, z4, z5, z6, z7⟩ := cx8 hB.out
      go_wp2
      refine bodyPost_ret (v := .tuple #[(.agg #[.int .i64 (qt u 0), .int .i64 (qt v 0), .int .i64 (qt u 1), .int .i64 (qt v 1), .int .i64 (qt u 2), .int .i64 (qt v 2), .int .i64 (qt u 3), .int .i64 (qt v 3)]), .int .i64 0]) ?_ rfl ?_
      · simp [results, Tryd.results14, go_sem, o0, o1, o2, o3, o4, o5, o6, o7]
      · rw [HP.out]
        unfold IPost
        rw [hyes.out]
        exact ⟨rfl, Ext.st8 hE.out (by omega) _ _ _ _ _ _ _ _⟩
end Go.Proofs.YtbnmnkmjokcmfaaDoor
