import Derived.Test.YtbnmnkmjokcmfaaDoorS1
/- season: valid, Transform, Inverse, Product, Turn. -/
namespace Go.Proofs.YtbnmnkmjokcmfaaDoor
open Go.RowKit

theorem cx8 {w : World} {B : Nat} {c0 c1 c2 c3 c4 c5 c6 c7 : Value} {T : TypeId} (h : w.heap[B]? = some (.cells #[c0, c1, c2, c3, c4, c5, c6, c7] T (0, 0))) :
    (w.cell? ⟨B, 0, none⟩ = some c0 ∧ w.cell? ⟨B, 1, none⟩ = some c1 ∧ w.cell? ⟨B, 2, none⟩ = some c2 ∧ w.cell? ⟨B, 3, none⟩ = some c3 ∧ w.cell? ⟨B, 4, none⟩ = some c4 ∧ w.cell? ⟨B, 5, none⟩ = some c5 ∧ w.cell? ⟨B, 6, none⟩ = some c6 ∧ w.cell? ⟨B, 7, none⟩ = some c7) ∧
      w.frozen? ⟨B, 0, none⟩ = false ∧ w.frozen? ⟨B, 1, none⟩ = false ∧ w.frozen? ⟨B, 2, none⟩ = false ∧ w.frozen? ⟨B, 3, none⟩ = false ∧ w.frozen? ⟨B, 4, none⟩ = false ∧ w.frozen? ⟨B, 5, none⟩ = false ∧ w.frozen? ⟨B, 6, none⟩ = false ∧ w.frozen? ⟨B, 7, none⟩ = false := by
  refine ⟨⟨?_, ?_, ?_, ?_, ?_, ?_, ?_, ?_⟩, Lib.frozen_of_heap h 0, Lib.frozen_of_heap h 1, Lib.frozen_of_heap h 2, Lib.frozen_of_heap h 3, Lib.frozen_of_heap h 4, Lib.frozen_of_heap h 5, Lib.frozen_of_heap h 6, Lib.frozen_of_heap h 7⟩
  all_goals (rw [Lib.cell_of_heap h]; rfl)
theorem Ext.st8 {w0 w : World} (h : Ext w0 w) {B : Nat} (hB : w0.heap.size ≤ B) (a b c d e f g i : Value) :
    Ext w0 ((((((((w.setCell ⟨B, 0, none⟩ a).setCell ⟨B, 1, none⟩ b).setCell ⟨B, 2, none⟩ c).setCell ⟨B, 3, none⟩ d).setCell ⟨B, 4, none⟩ e).setCell ⟨B, 5, none⟩ f).setCell ⟨B, 6, none⟩ g).setCell ⟨B, 7, none⟩ i) :=
  Below.setCell (Below.setCell (Below.setCell (Below.setCell (Below.setCell (Below.setCell (Below.setCell (Below.setCell h (p := ⟨B, 0, none⟩) hB _) (p := ⟨B, 1, none⟩) hB _) (p := ⟨B, 2, none⟩) hB _) (p := ⟨B, 3, none⟩) hB _) (p := ⟨B, 4, none⟩) hB _) (p := ⟨B, 5, none⟩) hB _) (p := ⟨B, 6, none⟩) hB _) (p := ⟨B, 7, none⟩) hB _

/-- are the first n numbers valid -/
def allV (a b : Nat → Int) (n : Nat) : Bool := (List.range n).all fun j => gB (a j) (b j)
theorem allV_iff {a b : Nat → Int} {n : Nat} : allV a b n = true ↔ ∀ j, j < n → gB (a j) (b j) = true := by
  unfold allV; simp [List.all_eq_true]
theorem allV_no {a b : Nat → Int} {n k : Nat} (hk : k < n) (h : gB (a k) (b k) = false) : allV a b n = false := by
  cases hv : allV a b n with
  | false => rfl
  | true => rw [allV_iff.1 hv k hk] at h; cases h
set_option maxRecDepth 100000 in
set_option maxHeartbeats 4000000 in
theorem valid_any (B n c : Nat) (a b : Nat → Int) (w : World) (hc : ∀ j, j < n → w.cell? ⟨B, j * 2, none⟩ = some (.int .i64 (a j)) ∧ w.cell? ⟨B, j * 2 + 1, none⟩ = some (.int .i64 (b j))) (hn : n ≤ 4) :
    Calls Tryd.prog 36 #[.slice (some ⟨B, 0, none⟩) n c] w fun e w' => e = .returned (.bool (allV a b n)) ∧ Ext w w' := by
  have HC := Box.mk hc
  clear hc
  go_enter Tryd.func36, Tryd.ntmps36
  go_wp2
  go_loopw [7] (fun i wr => ∃ k : Nat, k ≤ n ∧ i = .int .i64 k ∧ Box (∀ j, j < k → gB (a j) (b j) = true) ∧ Box (Ext w wr)) (fun i _ => n - (intOf i).toNat)
  case atStart => exact ⟨0, by omega, rfl, ⟨fun j hj => by omega⟩, ⟨Below.refl _ _⟩⟩
  case round =>
    obtain ⟨k, hk, rfl, hv, hx⟩ := hrel
    by_cases hkn : k < n
    · have m0 := Ext.cell hx.out (HC.out k hkn).1
      have m1 := Ext.cell hx.out (HC.out k hkn).2
      have n1 : (0 : Int) ≤ (k : Int) := by omega
      have n2 : (k : Int) < (n : Int) := by omega
      have n2' : decide ((k : Int) < (n : Int)) = true := decide_eq_true n2
      have hx1 := Box.mk (Ext.alloc hx.out (.cells #[.int .i64 (a k), .int .i64 (b k)] 23))
      cases hg : gB (a k) (b k) with
      | true =>
        obtain ⟨d1, d2, d3, d4⟩ := gB_yes hg
        have hv1 := Box.mk (show ∀ j, j < k + 1 → gB (a j) (b j) = true from fun j hj => by
          by_cases hjk : j = k
          · subst hjk; exact hg
          · exact hv.out j (by omega))
        clear hg
        generalize a k = x at *
        generalize b k = y at *
        go_wp2
        go_roundw
        case rel =>
          exact ⟨k + 1, by omega, by go_num, hv1, hx1⟩
        case measure => simp [intOf]; omega
      | false =>
        have hf := Box.mk (allV_no hkn hg)
        rcases gB_not hg with d1 | ⟨d1, d2⟩ | ⟨d1, d2, d3⟩ | ⟨d1, d2, d3, d4⟩
        all_goals
          clear hg
          generalize a k = x at *
          generalize b k = y at *
          go_wp2
          go_ret
          exact ⟨ret_bool hf.out.symm, hx1.out⟩
    · obtain rfl : k = n := by omega
      have hf := Box.mk (allV_iff.2 hv.out)
      go_wp2
      go_ret
      exact ⟨ret_bool hf.out.symm, hx.out⟩

theorem w8 (w : World) (a b : Nat → Int) : Ext w ((w.alloc (.cells #[.int .i64 (a 0), .int .i64 (b 0), .int .i64 (a 1), .int .i64 (b 1), .int .i64 (a 2), .int .i64 (b 2), .int .i64 (a 3), .int .i64 (b 3)] 29)).alloc (.cells #[.int .i64 0, .int .i64 0, .int .i64 0, .int .i64 0, .int .i64 0, .int .i64 0, .int .i64 0, .int .i64 0] 29)) ∧ ((w.alloc (.cells #[.int .i64 (a 0), .int .i64 (b 0), .int .i64 (a 1), .int .i64 (b 1), .int .i64 (a 2), .int .i64 (b 2), .int .i64 (a 3), .int .i64 (b 3)] 29)).alloc (.cells #[.int .i64 0, .int .i64 0, .int .i64 0, .int .i64 0, .int .i64 0, .int .i64 0, .int .i64 0, .int .i64 0] 29)).heap[w.heap.size]? = some (.cells #[.int .i64 (a 0), .int .i64 (b 0), .int .i64 (a 1), .int .i64 (b 1), .int .i64 (a 2), .int .i64 (b 2), .int .i64 (a 3), .int .i64 (b 3)] 29 (0, 0)) ∧ ((w.alloc (.cells #[.int .i64 (a 0), .int .i64 (b 0), .int .i64 (a 1), .int .i64 (b 1), .int .i64 (a 2), .int .i64 (b 2), .int .i64 (a 3), .int .i64 (b 3)] 29)).alloc (.cells #[.int .i64 0, .int .i64 0, .int .i64 0, .int .i64 0, .int .i64 0, .int .i64 0, .int .i64 0, .int .i64 0] 29)).heap[w.heap.size + 1]? = some (.cells #[.int .i64 0, .int .i64 0, .int .i64 0, .int .i64 0, .int .i64 0, .int .i64 0, .int .i64 0, .int .i64 0] 29 (0, 0)) := by
  refine ⟨Ext.alloc (Ext.alloc (Below.refl _ _) _) _, Ext.blk (Ext.alloc (Below.refl _ _) _) (newblk w _), ?_⟩
  have h := newblk (w.alloc (.cells #[.int .i64 (a 0), .int .i64 (b 0), .int .i64 (a 1), .int .i64 (b 1), .int .i64 (a 2), .int .i64 (b 2), .int .i64 (a 3), .int .i64 (b 3)] 29)) (.cells #[.int .i64 0, .int .i64 0, .int .i64 0, .int .i64 0, .int .i64 0, .int .i64 0, .int .i64 0, .int .i64 0] 29)
  rw [show (w.alloc (.cells #[.int .i64 (a 0), .int .i64 (b 0), .int .i64 (a 1), .int .i64 (b 1), .int .i64 (a 2), .int .i64 (b 2), .int .i64 (a 3), .int .i64 (b 3)] 29)).heap.size = w.heap.size + 1 by simp] at h
  exact h
theorem valid_4 (B : Nat) (a b : Nat → Int) (w : World) (T : TypeId) (h : w.heap[B]? = some (.cells #[.int .i64 (a 0), .int .i64 (b 0), .int .i64 (a 1), .int .i64 (b 1), .int .i64 (a 2), .int .i64 (b 2), .int .i64 (a 3), .int .i64 (b 3)] T (0, 0))) :
    Calls Tryd.prog 36 #[.slice (some ⟨B, 0, none⟩) 4 4] w fun e w' => e = .returned (.bool (allV a b 4)) ∧ Ext w w' :=
  valid_any B 4 4 a b w (fun j hj => by
    obtain ⟨⟨c0, c1, c2, c3, c4, c5, c6, c7⟩, -⟩ := cx8 h
    obtain rfl | rfl | rfl | rfl : j = 0 ∨ j = 1 ∨ j = 2 ∨ j = 3 := by omega
    · exact ⟨c0, c1⟩
    · exact ⟨c2, c3⟩
    · exact ⟨c4, c5⟩
    · exact ⟨c6, c7⟩) (by omega)
def fw (a : Nat → Int) (j : Nat) : Nat := floatOfInt .f64 (a j)
theorem of_4 (a b : Nat → Int) (w : World) : Calls Tryd.prog 44 #[(.agg #[.int .i64 (a 0), .int .i64 (b 0), .int .i64 (a 1), .int .i64 (b 1), .int .i64 (a 2), .int .i64 (b 2), .int .i64 (a 3), .int .i64 (b 3)])] w fun e w' => e = .returned (.agg #[(.complex .f64 (fw a 0) (fw b 0)), (.complex .f64 (fw a 1) (fw b 1)), (.complex .f64 (fw a 2) (fw b 2)), (.complex .f64 (fw a 3) (fw b 3))]) ∧ Ext w w' := of_any _ _ _ _ _ _ _ _ w
theorem back_4 (a b : Nat → Int) (r t : Nat → Nat) (h : ∀ k, k < 4 → Fl (a k) (r k) ∧ Fl (b k) (t k)) (hl : ∀ k, k < 4 → (-(2 ^ 60) ≤ a k ∧ a k ≤ 2 ^ 60) ∧ (-(2 ^ 60) ≤ b k ∧ b k ≤ 2 ^ 60)) (w : World) :
    Calls Tryd.prog 42 #[(.agg #[(.complex .f64 (r 0) (t 0)), (.complex .f64 (r 1) (t 1)), (.complex .f64 (r 2) (t 2)), (.complex .f64 (r 3) (t 3))])] w fun e w' => e = .returned (.agg #[.int .i64 (a 0), .int .i64 (b 0), .int .i64 (a 1), .int .i64 (b 1), .int .i64 (a 2), .int .i64 (b 2), .int .i64 (a 3), .int .i64 (b 3)]) ∧ Ext w w' :=
  back_any _ _ _ _ _ _ _ _ _ _ _ _ _ _ _ _ (h 0 (by omega)) (hl 0 (by omega)) (h 1 (by omega)) (hl 1 (by omega)) (h 2 (by omega)) (hl 2 (by omega)) (h 3 (by omega)) (hl 3 (by omega)) w
theorem fw_fl {a b : Nat → Int} (h : allV a b 4 = true) : ∀ j, j < 4 → (Fl (a j) (fw a j) ∧ Fl (b j) (fw b j)) ∧ (Lim (2 ^ 20) (a j) ∧ Lim (2 ^ 20) (b j)) := fun j hj => by
  have hg := gB_iff.1 (allV_iff.1 h j hj)
  exact ⟨⟨fl_int _ (by omega), fl_int _ (by omega)⟩, by unfold Lim; omega⟩
/-- the transform's parts, and those of the sums with powers of i -/
def tR (a b : Nat → Int) (k : Nat) : Int := sR (-1) a b k 4
def tI (a b : Nat → Int) (k : Nat) : Int := sI (-1) a b k 4
def iR (a b : Nat → Int) (k : Nat) : Int := sR 1 a b k 4
def iI (a b : Nat → Int) (k : Nat) : Int := sI 1 a b k 4
set_option maxRecDepth 100000 in
set_option maxHeartbeats 4000000 in
theorem transform_bad (a b : Nat → Int) (w : World) (hv : allV a b 4 = false) :
    Calls Tryd.prog 13 #[(.agg #[.int .i64 (a 0), .int .i64 (b 0), .int .i64 (a 1), .int .i64 (b 1), .int .i64 (a 2), .int .i64 (b 2), .int .i64 (a 3), .int .i64 (b 3)])] w fun e w' => e = .returned (.tuple #[.agg #[.int .i64 0, .int .i64 0, .int .i64 0, .int .i64 0, .int .i64 0, .int .i64 0, .int .i64 0, .int .i64 0], .int .i64 2]) ∧ Ext w w' := by
  obtain ⟨hx, hA, hB⟩ := w8 w a b
  have cv : Box (∀ w', w'.heap[w.heap.size]? = some (.cells #[.int .i64 (a 0), .int .i64 (b 0), .int .i64 (a 1), .int .i64 (b 1), .int .i64 (a 2), .int .i64 (b 2), .int .i64 (a 3), .int .i64 (b 3)] 29 (0, 0)) → Calls Tryd.prog 36 #[.slice (some ⟨w.heap.size, 0, none⟩) 4 4] w' fun e w'' => e = .returned (.bool false) ∧ Ext w' w'') := ⟨fun w' h => by rw [← hv]; exact valid_4 _ a b w' _ h⟩
  have HA := Box.mk hA
  obtain ⟨⟨o0, o1, o2, o3, o4, o5, o6, o7⟩, z0, z1, z2, z3, z4, z5, z6, z7⟩ := cx8 hB
  clear hA hv
  go_enter Tryd.func13, Tryd.ntmps13
  go_wp2_with (first
    | (go_at_call 36; (with_reducible refine (cv.out _ HA.out).mono ?_); rintro e w1 ⟨rfl, hb⟩; have hx := Ext.trans' hx hb; have hB := Ext.blk hb hB; clear o0 o1 o2 o3 o4 o5 o6 o7 z0 z1 z2 z3 z4 z5 z6 z7; obtain ⟨⟨o0, o1, o2, o3, o4, o5, o6, o7⟩, z0, z1, z2, z3, z4, z5, z6, z7⟩ := cx8 hB))
  refine bodyPost_ret (v := .tuple #[.agg #[.int .i64 0, .int .i64 0, .int .i64 0, .int .i64 0, .int .i64 0, .int .i64 0, .int .i64 0, .int .i64 0], .int .i64 2]) ?_ rfl ⟨rfl, Ext.st8 hx (by simp) _ _ _ _ _ _ _ _⟩
  simp [results, Tryd.results13, go_sem, o0, o1, o2, o3, o4, o5, o6, o7]
set_option maxRecDepth 100000 in
set_option maxHeartbeats 4000000 in
theorem transform_ok (a b : Nat → Int) (w : World) (hv : allV a b 4 = true) :
    Calls Tryd.prog 13 #[(.agg #[.int .i64 (a 0), .int .i64 (b 0), .int .i64 (a 1), .int .i64 (b 1), .int .i64 (a 2), .int .i64 (b 2), .int .i64 (a 3), .int .i64 (b 3)])] w fun e w' => e = .returned (.tuple #[(.agg #[.int .i64 (tR a b 0), .int .i64 (tI a b 0), .int .i64 (tR a b 1), .int .i64 (tI a b 1), .int .i64 (tR a b 2), .int .i64 (tI a b 2), .int .i64 (tR a b 3), .int .i64 (tI a b 3)]), .int .i64 0]) ∧ Ext w w' := by
  obtain ⟨hx, hA, hB⟩ := w8 w a b
  have cv : Box (∀ w', w'.heap[w.heap.size]? = some (.cells #[.int .i64 (a 0), .int .i64 (b 0), .int .i64 (a 1), .int .i64 (b 1), .int .i64 (a 2), .int .i64 (b 2), .int .i64 (a 3), .int .i64 (b 3)] 29 (0, 0)) → Calls Tryd.prog 36 #[.slice (some ⟨w.heap.size, 0, none⟩) 4 4] w' fun e w'' => e = .returned (.bool true) ∧ Ext w' w'') := ⟨fun w' h => by rw [← hv]; exact valid_4 _ a b w' _ h⟩
  have co : Box (∀ w', _) := ⟨fun w' => of_4 a b w'⟩
  have hL : ∀ j, j < 4 → Lim (2 ^ 44) (a j) ∧ Lim (2 ^ 44) (b j) := fun j hj => by
    have := (fw_fl hv j hj).2
    unfold Lim at *; omega
  have cs : Box (∀ w', Calls Tryd.prog 43 #[(.agg #[(.complex .f64 (fw a 0) (fw b 0)), (.complex .f64 (fw a 1) (fw b 1)), (.complex .f64 (fw a 2) (fw b 2)), (.complex .f64 (fw a 3) (fw b 3))]), .int .i64 (-1)] w' fun e w'' => ∃ r t : Nat → Nat, e = .returned (.agg #[(.complex .f64 (r 0) (t 0)), (.complex .f64 (r 1) (t 1)), (.complex .f64 (r 2) (t 2)), (.complex .f64 (r 3) (t 3))]) ∧ (∀ k, k < 4 → Fl (tR a b k) (r k) ∧ Fl (tI a b k) (t k)) ∧ Ext w' w'') := ⟨fun w' => sums_any (-1) (Or.inr rfl) a b (fw a) (fw b) (fun j hj => (fw_fl hv j hj).1) hL w'⟩
  have cb : Box (∀ (r t : Nat → Nat) (w' : World), (∀ k, k < 4 → Fl (tR a b k) (r k) ∧ Fl (tI a b k) (t k)) → Calls Tryd.prog 42 #[(.agg #[(.complex .f64 (r 0) (t 0)), (.complex .f64 (r 1) (t 1)), (.complex .f64 (r 2) (t 2)), (.complex .f64 (r 3) (t 3))])] w' fun e w'' => e = .returned (.agg #[.int .i64 (tR a b 0), .int .i64 (tI a b 0), .int .i64 (tR a b 1), .int .i64 (tI a b 1), .int .i64 (tR a b 2), .int .i64 (tI a b 2), .int .i64 (tR a b 3), .int .i64 (tI a b 3)]) ∧ Ext w' w'') := ⟨fun r t w' h => back_4 (tR a b) (tI a b) r t h (fun k hk => by
    have := s_lim (s := -1) k hL 4 (by omega)
    unfold Lim at this
    unfold tR tI
    omega) w'⟩
  generalize tR a b = u at *
  generalize tI a b = v at *
  generalize fw a = fa at *
  generalize fw b = fb at *
  obtain ⟨⟨m0, m1, m2, m3, m4, m5, m6, m7⟩, -⟩ := cx8 hA
  obtain ⟨⟨o0, o1, o2, o3, o4, o5, o6, o7⟩, z0, z1, z2, z3, z4, z5, z6, z7⟩ := cx8 hB
  clear hv hL
  go_enter Tryd.func13, Tryd.ntmps13
  go_wp2_with (first
    | (go_at_call 36; (with_reducible refine (cv.out _ hA).mono ?_); rintro e w1 ⟨rfl, hb⟩; have hx := Ext.trans' hx hb; have hA := Ext.blk hb hA; have hB := Ext.blk hb hB; clear m0 m1 m2 m3 m4 m5 m6 m7 o0 o1 o2 o3 o4 o5 o6 o7 z0 z1 z2 z3 z4 z5 z6 z7; obtain ⟨⟨m0, m1, m2, m3, m4, m5, m6, m7⟩, -⟩ := cx8 hA; obtain ⟨⟨o0, o1, o2, o3, o4, o5, o6, o7⟩, z0, z1, z2, z3, z4, z5, z6, z7⟩ := cx8 hB)
    | (go_at_call 44; (with_reducible refine (co.out _).mono ?_); rintro e w1 ⟨rfl, hb⟩; have hx := Ext.trans' hx hb; have hA := Ext.blk hb hA; have hB := Ext.blk hb hB; clear m0 m1 m2 m3 m4 m5 m6 m7 o0 o1 o2 o3 o4 o5 o6 o7 z0 z1 z2 z3 z4 z5 z6 z7; obtain ⟨⟨m0, m1, m2, m3, m4, m5, m6, m7⟩, -⟩ := cx8 hA; obtain ⟨⟨o0, o1, o2, o3, o4, o5, o6, o7⟩, z0, z1, z2, z3, z4, z5, z6, z7⟩ := cx8 hB)
    | (go_at_call 43; (with_reducible refine (cs.out _).mono ?_); rintro e w1 ⟨r, t, rfl, hF, hb⟩; have hF := Box.mk hF; have hx := Ext.trans' hx hb; have hA := Ext.blk hb hA; have hB := Ext.blk hb hB; clear m0 m1 m2 m3 m4 m5 m6 m7 o0 o1 o2 o3 o4 o5 o6 o7 z0 z1 z2 z3 z4 z5 z6 z7; obtain ⟨⟨m0, m1, m2, m3, m4, m5, m6, m7⟩, -⟩ := cx8 hA; obtain ⟨⟨o0, o1, o2, o3, o4, o5, o6, o7⟩, z0, z1, z2, z3, z4, z5, z6, z7⟩ := cx8 hB)
    | (go_at_call 42; (with_reducible refine (cb.out _ _ _ hF.out).mono ?_); rintro e w1 ⟨rfl, hb⟩; have hx := Ext.trans' hx hb; have hA := Ext.blk hb hA; have hB := Ext.blk hb hB; clear m0 m1 m2 m3 m4 m5 m6 m7 o0 o1 o2 o3 o4 o5 o6 o7 z0 z1 z2 z3 z4 z5 z6 z7; obtain ⟨⟨m0, m1, m2, m3, m4, m5, m6, m7⟩, -⟩ := cx8 hA; obtain ⟨⟨o0, o1, o2, o3, o4, o5, o6, o7⟩, z0, z1, z2, z3, z4, z5, z6, z7⟩ := cx8 hB))
  refine bodyPost_ret (v := .tuple #[(.agg #[.int .i64 (u 0), .int .i64 (v 0), .int .i64 (u 1), .int .i64 (v 1), .int .i64 (u 2), .int .i64 (v 2), .int .i64 (u 3), .int .i64 (v 3)]), .int .i64 0]) ?_ rfl ⟨rfl, Ext.st8 hx (by simp) _ _ _ _ _ _ _ _⟩
  simp [results, Tryd.results13, go_sem, o0, o1, o2, o3, o4, o5, o6, o7]
end Go.Proofs.YtbnmnkmjokcmfaaDoor
