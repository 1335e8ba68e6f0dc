import Derived.Test.YthlnhemdhlkhfaaDoorD1
/- Which workloads are valid. -/
namespace Go.Proofs.YthlnhemdhlkhfaaDoor
open Go.RowKit

/-- Whether a workload is valid. -/
def vldK (k a r p : Int) (s : Nat) : Bool :=
  if k = 1 then decide (p = 0 ∧ s = 0) else if k = 2 then decide (p = 0 ∧ s = 0 ∧ r ≤ a) else if k = 3 then decide (p = 0) else if k = 4 then decide (1 ≤ p ∧ p ≤ 8)
  else if k = 5 then decide (1 ≤ p ∧ p ≤ 64 ∧ p ≤ a) else if k = 6 then decide (1 ≤ p ∧ p ≤ 4096 ∧ 2 ≤ a) else false
def vldL (k a r p : Int) (s : Nat) : Bool := decide (1 ≤ a ∧ a ≤ 4096 ∧ 0 ≤ r ∧ r ≤ 4096) && vldK k a r p s
theorem vld_out {k a r p : Int} {s : Nat} (h : ¬ (1 ≤ a ∧ a ≤ 4096 ∧ 0 ≤ r ∧ r ≤ 4096)) : vldL k a r p s = false := by
  unfold vldL; rw [decide_eq_false h]; rfl
theorem vld_in {k a r p : Int} {s : Nat} (h : 1 ≤ a ∧ a ≤ 4096 ∧ 0 ≤ r ∧ r ≤ 4096) : vldL k a r p s = vldK k a r p s := by
  unfold vldL; rw [decide_eq_true h]; rfl

set_option maxHeartbeats 4000000 in
theorem refValid_1 (a r p : Int) (s : Nat) (w : World) (g : 1 ≤ a ∧ a ≤ 4096 ∧ 0 ≤ r ∧ r ≤ 4096) : Calls Tryd.prog 12 #[.agg #[.int .i64 1, .int .i64 a, .int .i64 r, .int .i64 p, .int .u64 s]] w fun e w' => e = .returned (.bool (vldK 1 a r p s)) ∧ Ext w w' := by
  have hx : Ext w (w.alloc (.cells #[.int .i64 1, .int .i64 a, .int .i64 r, .int .i64 p, .int .u64 s] 28)) := Ext.alloc (Below.refl _ _) _
  have d1 : decide (a < 1) = false := decide_eq_false (by omega)
  have d2 : decide (4096 < a) = false := decide_eq_false (by omega)
  have d3 : decide (r < 0) = false := decide_eq_false (by omega)
  have d4 : decide (4096 < r) = false := decide_eq_false (by omega)
  clear g
  by_cases h0 : p = 0
  · have b0 : (p == 0) = true := by rw [beq_iff_eq]; omega
    by_cases h1 : s = 0
    · have b1 : ((s : Int) == 0) = true := by rw [beq_iff_eq]; omega
      rw [show vldK 1 a r p s = true from by unfold vldK; simp; omega]
      clear h0 h1
      go_enter Tryd.func12, Tryd.ntmps12
      go_wp2
      go_ret
      exact ⟨rfl, hx⟩
    · have b1 : ((s : Int) == 0) = false := by rw [beq_eq_false_iff_ne]; omega
      rw [show vldK 1 a r p s = false from by unfold vldK; simp; omega]
      clear h0 h1
      go_enter Tryd.func12, Tryd.ntmps12
      go_wp2
      go_ret
      exact ⟨rfl, hx⟩
  · have b0 : (p == 0) = false := by rw [beq_eq_false_iff_ne]; omega
    rw [show vldK 1 a r p s = false from by unfold vldK; simp; omega]
    clear h0
    go_enter Tryd.func12, Tryd.ntmps12
    go_wp2
    go_ret
    exact ⟨rfl, hx⟩
set_option maxHeartbeats 4000000 in
theorem refValid_2 (a r p : Int) (s : Nat) (w : World) (g : 1 ≤ a ∧ a ≤ 4096 ∧ 0 ≤ r ∧ r ≤ 4096) : Calls Tryd.prog 12 #[.agg #[.int .i64 2, .int .i64 a, .int .i64 r, .int .i64 p, .int .u64 s]] w fun e w' => e = .returned (.bool (vldK 2 a r p s)) ∧ Ext w w' := by
  have hx : Ext w (w.alloc (.cells #[.int .i64 2, .int .i64 a, .int .i64 r, .int .i64 p, .int .u64 s] 28)) := Ext.alloc (Below.refl _ _) _
  have d1 : decide (a < 1) = false := decide_eq_false (by omega)
  have d2 : decide (4096 < a) = false := decide_eq_false (by omega)
  have d3 : decide (r < 0) = false := decide_eq_false (by omega)
  have d4 : decide (4096 < r) = false := decide_eq_false (by omega)
  clear g
  by_cases h0 : p = 0
  · have b0 : (p == 0) = true := by rw [beq_iff_eq]; omega
    by_cases h1 : s = 0
    · have b1 : ((s : Int) == 0) = true := by rw [beq_iff_eq]; omega
      by_cases h2 : r ≤ a
      · have b2 : decide (r ≤ a) = true := decide_eq_true h2
        rw [show vldK 2 a r p s = true from by unfold vldK; simp; omega]
        clear h0 h1 h2
        go_enter Tryd.func12, Tryd.ntmps12
        go_wp2
        go_ret
        exact ⟨rfl, hx⟩
      · have b2 : decide (r ≤ a) = false := decide_eq_false h2
        rw [show vldK 2 a r p s = false from by unfold vldK; simp; omega]
        clear h0 h1 h2
        go_enter Tryd.func12, Tryd.ntmps12
        go_wp2
        go_ret
        exact ⟨rfl, hx⟩
    · have b1 : ((s : Int) == 0) = false := by rw [beq_eq_false_iff_ne]; omega
      rw [show vldK 2 a r p s = false from by unfold vldK; simp; omega]
      clear h0 h1
      go_enter Tryd.func12, Tryd.ntmps12
      go_wp2
      go_ret
      exact ⟨rfl, hx⟩
  · have b0 : (p == 0) = false := by rw [beq_eq_false_iff_ne]; omega
    rw [show vldK 2 a r p s = false from by unfold vldK; simp; omega]
    clear h0
    go_enter Tryd.func12, Tryd.ntmps12
    go_wp2
    go_ret
    exact ⟨rfl, hx⟩
set_option maxHeartbeats 4000000 in
theorem refValid_3 (a r p : Int) (s : Nat) (w : World) (g : 1 ≤ a ∧ a ≤ 4096 ∧ 0 ≤ r ∧ r ≤ 4096) : Calls Tryd.prog 12 #[.agg #[.int .i64 3, .int .i64 a, .int .i64 r, .int .i64 p, .int .u64 s]] w fun e w' => e = .returned (.bool (vldK 3 a r p s)) ∧ Ext w w' := by
  have hx : Ext w (w.alloc (.cells #[.int .i64 3, .int .i64 a, .int .i64 r, .int .i64 p, .int .u64 s] 28)) := Ext.alloc (Below.refl _ _) _
  have d1 : decide (a < 1) = false := decide_eq_false (by omega)
  have d2 : decide (4096 < a) = false := decide_eq_false (by omega)
  have d3 : decide (r < 0) = false := decide_eq_false (by omega)
  have d4 : decide (4096 < r) = false := decide_eq_false (by omega)
  clear g
  by_cases h0 : p = 0
  · have b0 : (p == 0) = true := by rw [beq_iff_eq]; omega
    rw [show vldK 3 a r p s = true from by unfold vldK; simp; omega]
    clear h0
    go_enter Tryd.func12, Tryd.ntmps12
    go_wp2
    go_ret
    exact ⟨rfl, hx⟩
  · have b0 : (p == 0) = false := by rw [beq_eq_false_iff_ne]; omega
    rw [show vldK 3 a r p s = false from by unfold vldK; simp; omega]
    clear h0
    go_enter Tryd.func12, Tryd.ntmps12
    go_wp2
    go_ret
    exact ⟨rfl, hx⟩
set_option maxHeartbeats 4000000 in
theorem refValid_4 (a r p : Int) (s : Nat) (w : World) (g : 1 ≤ a ∧ a ≤ 4096 ∧ 0 ≤ r ∧ r ≤ 4096) : Calls Tryd.prog 12 #[.agg #[.int .i64 4, .int .i64 a, .int .i64 r, .int .i64 p, .int .u64 s]] w fun e w' => e = .returned (.bool (vldK 4 a r p s)) ∧ Ext w w' := by
  have hx : Ext w (w.alloc (.cells #[.int .i64 4, .int .i64 a, .int .i64 r, .int .i64 p, .int .u64 s] 28)) := Ext.alloc (Below.refl _ _) _
  have d1 : decide (a < 1) = false := decide_eq_false (by omega)
  have d2 : decide (4096 < a) = false := decide_eq_false (by omega)
  have d3 : decide (r < 0) = false := decide_eq_false (by omega)
  have d4 : decide (4096 < r) = false := decide_eq_false (by omega)
  clear g
  by_cases h0 : 1 ≤ p
  · have b0 : decide (1 ≤ p) = true := decide_eq_true h0
    by_cases h1 : p ≤ 8
    · have b1 : decide (p ≤ 8) = true := decide_eq_true h1
      rw [show vldK 4 a r p s = true from by unfold vldK; simp; omega]
      clear h0 h1
      go_enter Tryd.func12, Tryd.ntmps12
      go_wp2
      go_ret
      exact ⟨rfl, hx⟩
    · have b1 : decide (p ≤ 8) = false := decide_eq_false h1
      rw [show vldK 4 a r p s = false from by unfold vldK; simp; omega]
      clear h0 h1
      go_enter Tryd.func12, Tryd.ntmps12
      go_wp2
      go_ret
      exact ⟨rfl, hx⟩
  · have b0 : decide (1 ≤ p) = false := decide_eq_false h0
    rw [show vldK 4 a r p s = false from by unfold vldK; simp; omega]
    clear h0
    go_enter Tryd.func12, Tryd.ntmps12
    go_wp2
    go_ret
    exact ⟨rfl, hx⟩
set_option maxHeartbeats 4000000 in
theorem refValid_5 (a r p : Int) (s : Nat) (w : World) (g : 1 ≤ a ∧ a ≤ 4096 ∧ 0 ≤ r ∧ r ≤ 4096) : Calls Tryd.prog 12 #[.agg #[.int .i64 5, .int .i64 a, .int .i64 r, .int .i64 p, .int .u64 s]] w fun e w' => e = .returned (.bool (vldK 5 a r p s)) ∧ Ext w w' := by
  have hx : Ext w (w.alloc (.cells #[.int .i64 5, .int .i64 a, .int .i64 r, .int .i64 p, .int .u64 s] 28)) := Ext.alloc (Below.refl _ _) _
  have d1 : decide (a < 1) = false := decide_eq_false (by omega)
  have d2 : decide (4096 < a) = false := decide_eq_false (by omega)
  have d3 : decide (r < 0) = false := decide_eq_false (by omega)
  have d4 : decide (4096 < r) = false := decide_eq_false (by omega)
  clear g
  by_cases h0 : 1 ≤ p
  · have b0 : decide (1 ≤ p) = true := decide_eq_true h0
    by_cases h1 : p ≤ 64
    · have b1 : decide (p ≤ 64) = true := decide_eq_true h1
      by_cases h2 : p ≤ a
      · have b2 : decide (p ≤ a) = true := decide_eq_true h2
        rw [show vldK 5 a r p s = true from by unfold vldK; simp; omega]
        clear h0 h1 h2
        go_enter Tryd.func12, Tryd.ntmps12
        go_wp2
        go_ret
        exact ⟨rfl, hx⟩
      · have b2 : decide (p ≤ a) = false := decide_eq_false h2
        rw [show vldK 5 a r p s = false from by unfold vldK; simp; omega]
        clear h0 h1 h2
        go_enter Tryd.func12, Tryd.ntmps12
        go_wp2
        go_ret
        exact ⟨rfl, hx⟩
    · have b1 : decide (p ≤ 64) = false := decide_eq_false h1
      rw [show vldK 5 a r p s = false from by unfold vldK; simp; omega]
      clear h0 h1
      go_enter Tryd.func12, Tryd.ntmps12
      go_wp2
      go_ret
      exact ⟨rfl, hx⟩
  · have b0 : decide (1 ≤ p) = false := decide_eq_false h0
    rw [show vldK 5 a r p s = false from by unfold vldK; simp; omega]
    clear h0
    go_enter Tryd.func12, Tryd.ntmps12
    go_wp2
    go_ret
    exact ⟨rfl, hx⟩
set_option maxHeartbeats 4000000 in
theorem refValid_6 (a r p : Int) (s : Nat) (w : World) (g : 1 ≤ a ∧ a ≤ 4096 ∧ 0 ≤ r ∧ r ≤ 4096) : Calls Tryd.prog 12 #[.agg #[.int .i64 6, .int .i64 a, .int .i64 r, .int .i64 p, .int .u64 s]] w fun e w' => e = .returned (.bool (vldK 6 a r p s)) ∧ Ext w w' := by
  have hx : Ext w (w.alloc (.cells #[.int .i64 6, .int .i64 a, .int .i64 r, .int .i64 p, .int .u64 s] 28)) := Ext.alloc (Below.refl _ _) _
  have d1 : decide (a < 1) = false := decide_eq_false (by omega)
  have d2 : decide (4096 < a) = false := decide_eq_false (by omega)
  have d3 : decide (r < 0) = false := decide_eq_false (by omega)
  have d4 : decide (4096 < r) = false := decide_eq_false (by omega)
  clear g
  by_cases h0 : 1 ≤ p
  · have b0 : decide (1 ≤ p) = true := decide_eq_true h0
    by_cases h1 : p ≤ 4096
    · have b1 : decide (p ≤ 4096) = true := decide_eq_true h1
      by_cases h2 : 2 ≤ a
      · have b2 : decide (2 ≤ a) = true := decide_eq_true h2
        rw [show vldK 6 a r p s = true from by unfold vldK; simp; omega]
        clear h0 h1 h2
        go_enter Tryd.func12, Tryd.ntmps12
        go_wp2
        go_ret
        exact ⟨rfl, hx⟩
      · have b2 : decide (2 ≤ a) = false := decide_eq_false h2
        rw [show vldK 6 a r p s = false from by unfold vldK; simp; omega]
        clear h0 h1 h2
        go_enter Tryd.func12, Tryd.ntmps12
        go_wp2
        go_ret
        exact ⟨rfl, hx⟩
    · have b1 : decide (p ≤ 4096) = false := decide_eq_false h1
      rw [show vldK 6 a r p s = false from by unfold vldK; simp; omega]
      clear h0 h1
      go_enter Tryd.func12, Tryd.ntmps12
      go_wp2
      go_ret
      exact ⟨rfl, hx⟩
  · have b0 : decide (1 ≤ p) = false := decide_eq_false h0
    rw [show vldK 6 a r p s = false from by unfold vldK; simp; omega]
    clear h0
    go_enter Tryd.func12, Tryd.ntmps12
    go_wp2
    go_ret
    exact ⟨rfl, hx⟩
set_option maxHeartbeats 4000000 in
theorem refValid_0 (k a r p : Int) (s : Nat) (w : World) (g : 1 ≤ a ∧ a ≤ 4096 ∧ 0 ≤ r ∧ r ≤ 4096) (hk : k ≠ 1 ∧ k ≠ 2 ∧ k ≠ 3 ∧ k ≠ 4 ∧ k ≠ 5 ∧ k ≠ 6) : Calls Tryd.prog 12 #[.agg #[.int .i64 k, .int .i64 a, .int .i64 r, .int .i64 p, .int .u64 s]] w fun e w' => e = .returned (.bool false) ∧ Ext w w' := by
  have hx : Ext w (w.alloc (.cells #[.int .i64 k, .int .i64 a, .int .i64 r, .int .i64 p, .int .u64 s] 28)) := Ext.alloc (Below.refl _ _) _
  have d1 : decide (a < 1) = false := decide_eq_false (by omega)
  have d2 : decide (4096 < a) = false := decide_eq_false (by omega)
  have d3 : decide (r < 0) = false := decide_eq_false (by omega)
  have d4 : decide (4096 < r) = false := decide_eq_false (by omega)
  have k1 : (k == 1) = false := by rw [beq_eq_false_iff_ne]; omega
  have k2 : (k == 2) = false := by rw [beq_eq_false_iff_ne]; omega
  have k3 : (k == 3) = false := by rw [beq_eq_false_iff_ne]; omega
  have k4 : (k == 4) = false := by rw [beq_eq_false_iff_ne]; omega
  have k5 : (k == 5) = false := by rw [beq_eq_false_iff_ne]; omega
  have k6 : (k == 6) = false := by rw [beq_eq_false_iff_ne]; omega
  clear g hk
  go_enter Tryd.func12, Tryd.ntmps12
  go_wp2
  go_ret
  exact ⟨rfl, hx⟩
set_option maxHeartbeats 4000000 in
theorem refValid_out (k a r p : Int) (s : Nat) (w : World) (g : ¬ (1 ≤ a ∧ a ≤ 4096 ∧ 0 ≤ r ∧ r ≤ 4096)) : Calls Tryd.prog 12 #[.agg #[.int .i64 k, .int .i64 a, .int .i64 r, .int .i64 p, .int .u64 s]] w fun e w' => e = .returned (.bool false) ∧ Ext w w' := by
  have hx : Ext w (w.alloc (.cells #[.int .i64 k, .int .i64 a, .int .i64 r, .int .i64 p, .int .u64 s] 28)) := Ext.alloc (Below.refl _ _) _
  have key : decide (a < 1) = true ∨ (decide (a < 1) = false ∧ decide (4096 < a) = true) ∨ (decide (a < 1) = false ∧ decide (4096 < a) = false ∧ decide (r < 0) = true) ∨ (decide (a < 1) = false ∧ decide (4096 < a) = false ∧ decide (r < 0) = false ∧ decide (4096 < r) = true) := by
    simp only [decide_eq_true_eq, decide_eq_false_iff_not]; omega
  clear g
  rcases key with d1 | ⟨d1, d2⟩ | ⟨d1, d2, d3⟩ | ⟨d1, d2, d3, d4⟩
  all_goals
    go_enter Tryd.func12, Tryd.ntmps12
    go_wp2
    go_ret
    exact ⟨rfl, hx⟩
theorem refValid_any (k a r p : Int) (s : Nat) (w : World) : Calls Tryd.prog 12 #[.agg #[.int .i64 k, .int .i64 a, .int .i64 r, .int .i64 p, .int .u64 s]] w fun e w' => e = .returned (.bool (vldL k a r p s)) ∧ Ext w w' := by
  by_cases g : 1 ≤ a ∧ a ≤ 4096 ∧ 0 ≤ r ∧ r ≤ 4096
  · rw [vld_in g]
    by_cases hk : k ≠ 1 ∧ k ≠ 2 ∧ k ≠ 3 ∧ k ≠ 4 ∧ k ≠ 5 ∧ k ≠ 6
    · have e : vldK k a r p s = false := by
        unfold vldK
        rw [if_neg hk.1, if_neg hk.2.1, if_neg hk.2.2.1, if_neg hk.2.2.2.1, if_neg hk.2.2.2.2.1, if_neg hk.2.2.2.2.2]
      rw [e]
      exact refValid_0 k a r p s w g hk
    · obtain rfl | rfl | rfl | rfl | rfl | rfl : k = 1 ∨ k = 2 ∨ k = 3 ∨ k = 4 ∨ k = 5 ∨ k = 6 := by omega
      · exact refValid_1 a r p s w g
      · exact refValid_2 a r p s w g
      · exact refValid_3 a r p s w g
      · exact refValid_4 a r p s w g
      · exact refValid_5 a r p s w g
      · exact refValid_6 a r p s w g
  · rw [vld_out g]
    exact refValid_out k a r p s w g

set_option maxHeartbeats 4000000 in
theorem gvalid_1 (a r p : Int) (s : Nat) (w : World) (g : 1 ≤ a ∧ a ≤ 4096 ∧ 0 ≤ r ∧ r ≤ 4096) : Calls Tryd.prog 11 #[.agg #[.int .i64 1, .int .i64 a, .int .i64 r, .int .i64 p, .int .u64 s]] w fun e w' => e = .returned (.bool (vldK 1 a r p s)) ∧ Ext w w' := by
  have hx : Ext w (w.alloc (.cells #[.int .i64 1, .int .i64 a, .int .i64 r, .int .i64 p, .int .u64 s] 28)) := Ext.alloc (Below.refl _ _) _
  have d1 : decide (a < 1) = false := decide_eq_false (by omega)
  have d2 : decide (4096 < a) = false := decide_eq_false (by omega)
  have d3 : decide (r < 0) = false := decide_eq_false (by omega)
  have d4 : decide (4096 < r) = false := decide_eq_false (by omega)
  clear g
  by_cases h0 : p = 0
  · have b0 : (p == 0) = true := by rw [beq_iff_eq]; omega
    by_cases h1 : s = 0
    · have b1 : ((s : Int) == 0) = true := by rw [beq_iff_eq]; omega
      rw [show vldK 1 a r p s = true from by unfold vldK; simp; omega]
      clear h0 h1
      go_enter Tryd.func11, Tryd.ntmps11
      go_wp2
      go_ret
      exact ⟨rfl, hx⟩
    · have b1 : ((s : Int) == 0) = false := by rw [beq_eq_false_iff_ne]; omega
      rw [show vldK 1 a r p s = false from by unfold vldK; simp; omega]
      clear h0 h1
      go_enter Tryd.func11, Tryd.ntmps11
      go_wp2
      go_ret
      exact ⟨rfl, hx⟩
  · have b0 : (p == 0) = false := by rw [beq_eq_false_iff_ne]; omega
    rw [show vldK 1 a r p s = false from by unfold vldK; simp; omega]
    clear h0
    go_enter Tryd.func11, Tryd.ntmps11
    go_wp2
    go_ret
    exact ⟨rfl, hx⟩
set_option maxHeartbeats 4000000 in
theorem gvalid_2 (a r p : Int) (s : Nat) (w : World) (g : 1 ≤ a ∧ a ≤ 4096 ∧ 0 ≤ r ∧ r ≤ 4096) : Calls Tryd.prog 11 #[.agg #[.int .i64 2, .int .i64 a, .int .i64 r, .int .i64 p, .int .u64 s]] w fun e w' => e = .returned (.bool (vldK 2 a r p s)) ∧ Ext w w' := by
  have hx : Ext w (w.alloc (.cells #[.int .i64 2, .int .i64 a, .int .i64 r, .int .i64 p, .int .u64 s] 28)) := Ext.alloc (Below.refl _ _) _
  have d1 : decide (a < 1) = false := decide_eq_false (by omega)
  have d2 : decide (4096 < a) = false := decide_eq_false (by omega)
  have d3 : decide (r < 0) = false := decide_eq_false (by omega)
  have d4 : decide (4096 < r) = false := decide_eq_false (by omega)
  clear g
  by_cases h0 : p = 0
  · have b0 : (p == 0) = true := by rw [beq_iff_eq]; omega
    by_cases h1 : s = 0
    · have b1 : ((s : Int) == 0) = true := by rw [beq_iff_eq]; omega
      by_cases h2 : r ≤ a
      · have b2 : decide (r ≤ a) = true := decide_eq_true h2
        rw [show vldK 2 a r p s = true from by unfold vldK; simp; omega]
        clear h0 h1 h2
        go_enter Tryd.func11, Tryd.ntmps11
        go_wp2
        go_ret
        exact ⟨rfl, hx⟩
      · have b2 : decide (r ≤ a) = false := decide_eq_false h2
        rw [show vldK 2 a r p s = false from by unfold vldK; simp; omega]
        clear h0 h1 h2
        go_enter Tryd.func11, Tryd.ntmps11
        go_wp2
        go_ret
        exact ⟨rfl, hx⟩
    · have b1 : ((s : Int) == 0) = false := by rw [beq_eq_false_iff_ne]; omega
      rw [show vldK 2 a r p s = false from by unfold vldK; simp; omega]
      clear h0 h1
      go_enter Tryd.func11, Tryd.ntmps11
      go_wp2
      go_ret
      exact ⟨rfl, hx⟩
  · have b0 : (p == 0) = false := by rw [beq_eq_false_iff_ne]; omega
    rw [show vldK 2 a r p s = false from by unfold vldK; simp; omega]
    clear h0
    go_enter Tryd.func11, Tryd.ntmps11
    go_wp2
    go_ret
    exact ⟨rfl, hx⟩
set_option maxHeartbeats 4000000 in
theorem gvalid_3 (a r p : Int) (s : Nat) (w : World) (g : 1 ≤ a ∧ a ≤ 4096 ∧ 0 ≤ r ∧ r ≤ 4096) : Calls Tryd.prog 11 #[.agg #[.int .i64 3, .int .i64 a, .int .i64 r, .int .i64 p, .int .u64 s]] w fun e w' => e = .returned (.bool (vldK 3 a r p s)) ∧ Ext w w' := by
  have hx : Ext w (w.alloc (.cells #[.int .i64 3, .int .i64 a, .int .i64 r, .int .i64 p, .int .u64 s] 28)) := Ext.alloc (Below.refl _ _) _
  have d1 : decide (a < 1) = false := decide_eq_false (by omega)
  have d2 : decide (4096 < a) = false := decide_eq_false (by omega)
  have d3 : decide (r < 0) = false := decide_eq_false (by omega)
  have d4 : decide (4096 < r) = false := decide_eq_false (by omega)
  clear g
  by_cases h0 : p = 0
  · have b0 : (p == 0) = true := by rw [beq_iff_eq]; omega
    rw [show vldK 3 a r p s = true from by unfold vldK; simp; omega]
    clear h0
    go_enter Tryd.func11, Tryd.ntmps11
    go_wp2
    go_ret
    exact ⟨rfl, hx⟩
  · have b0 : (p == 0) = false := by rw [beq_eq_false_iff_ne]; omega
    rw [show vldK 3 a r p s = false from by unfold vldK; simp; omega]
    clear h0
    go_enter Tryd.func11, Tryd.ntmps11
    go_wp2
    go_ret
    exact ⟨rfl, hx⟩
set_option maxHeartbeats 4000000 in
theorem gvalid_4 (a r p : Int) (s : Nat) (w : World) (g : 1 ≤ a ∧ a ≤ 4096 ∧ 0 ≤ r ∧ r ≤ 4096) : Calls Tryd.prog 11 #[.agg #[.int .i64 4, .int .i64 a, .int .i64 r, .int .i64 p, .int .u64 s]] w fun e w' => e = .returned (.bool (vldK 4 a r p s)) ∧ Ext w w' := by
  have hx : Ext w (w.alloc (.cells #[.int .i64 4, .int .i64 a, .int .i64 r, .int .i64 p, .int .u64 s] 28)) := Ext.alloc (Below.refl _ _) _
  have d1 : decide (a < 1) = false := decide_eq_false (by omega)
  have d2 : decide (4096 < a) = false := decide_eq_false (by omega)
  have d3 : decide (r < 0) = false := decide_eq_false (by omega)
  have d4 : decide (4096 < r) = false := decide_eq_false (by omega)
  clear g
  by_cases h0 : 1 ≤ p
  · have b0 : decide (1 ≤ p) = true := decide_eq_true h0
    by_cases h1 : p ≤ 8
    · have b1 : decide (p ≤ 8) = true := decide_eq_true h1
      rw [show vldK 4 a r p s = true from by unfold vldK; simp; omega]
      clear h0 h1
      go_enter Tryd.func11, Tryd.ntmps11
      go_wp2
      go_ret
      exact ⟨rfl, hx⟩
    · have b1 : decide (p ≤ 8) = false := decide_eq_false h1
      rw [show vldK 4 a r p s = false from by unfold vldK; simp; omega]
      clear h0 h1
      go_enter Tryd.func11, Tryd.ntmps11
      go_wp2
      go_ret
      exact ⟨rfl, hx⟩
  · have b0 : decide (1 ≤ p) = false := decide_eq_false h0
    rw [show vldK 4 a r p s = false from by unfold vldK; simp; omega]
    clear h0
    go_enter Tryd.func11, Tryd.ntmps11
    go_wp2
    go_ret
    exact ⟨rfl, hx⟩
set_option maxHeartbeats 4000000 in
theorem gvalid_5 (a r p : Int) (s : Nat) (w : World) (g : 1 ≤ a ∧ a ≤ 4096 ∧ 0 ≤ r ∧ r ≤ 4096) : Calls Tryd.prog 11 #[.agg #[.int .i64 5, .int .i64 a, .int .i64 r, .int .i64 p, .int .u64 s]] w fun e w' => e = .returned (.bool (vldK 5 a r p s)) ∧ Ext w w' := by
  have hx : Ext w (w.alloc (.cells #[.int .i64 5, .int .i64 a, .int .i64 r, .int .i64 p, .int .u64 s] 28)) := Ext.alloc (Below.refl _ _) _
  have d1 : decide (a < 1) = false := decide_eq_false (by omega)
  have d2 : decide (4096 < a) = false := decide_eq_false (by omega)
  have d3 : decide (r < 0) = false := decide_eq_false (by omega)
  have d4 : decide (4096 < r) = false := decide_eq_false (by omega)
  clear g
  by_cases h0 : 1 ≤ p
  · have b0 : decide (1 ≤ p) = true := decide_eq_true h0
    by_cases h1 : p ≤ min 64 a
    · have b1 : decide (p ≤ min 64 a) = true := decide_eq_true h1
      rw [show vldK 5 a r p s = true from by unfold vldK; simp; omega]
      clear h0 h1
      go_enter Tryd.func11, Tryd.ntmps11
      go_wp2
      go_ret
      exact ⟨rfl, hx⟩
    · have b1 : decide (p ≤ min 64 a) = false := decide_eq_false h1
      rw [show vldK 5 a r p s = false from by unfold vldK; simp; omega]
      clear h0 h1
      go_enter Tryd.func11, Tryd.ntmps11
      go_wp2
      go_ret
      exact ⟨rfl, hx⟩
  · have b0 : decide (1 ≤ p) = false := decide_eq_false h0
    rw [show vldK 5 a r p s = false from by unfold vldK; simp; omega]
    clear h0
    go_enter Tryd.func11, Tryd.ntmps11
    go_wp2
    go_ret
    exact ⟨rfl, hx⟩
set_option maxHeartbeats 4000000 in
theorem gvalid_6 (a r p : Int) (s : Nat) (w : World) (g : 1 ≤ a ∧ a ≤ 4096 ∧ 0 ≤ r ∧ r ≤ 4096) : Calls Tryd.prog 11 #[.agg #[.int .i64 6, .int .i64 a, .int .i64 r, .int .i64 p, .int .u64 s]] w fun e w' => e = .returned (.bool (vldK 6 a r p s)) ∧ Ext w w' := by
  have hx : Ext w (w.alloc (.cells #[.int .i64 6, .int .i64 a, .int .i64 r, .int .i64 p, .int .u64 s] 28)) := Ext.alloc (Below.refl _ _) _
  have d1 : decide (a < 1) = false := decide_eq_false (by omega)
  have d2 : decide (4096 < a) = false := decide_eq_false (by omega)
  have d3 : decide (r < 0) = false := decide_eq_false (by omega)
  have d4 : decide (4096 < r) = false := decide_eq_false (by omega)
  clear g
  by_cases h0 : 1 ≤ p
  · have b0 : decide (1 ≤ p) = true := decide_eq_true h0
    by_cases h1 : p ≤ 4096
    · have b1 : decide (p ≤ 4096) = true := decide_eq_true h1
      by_cases h2 : 2 ≤ a
      · have b2 : decide (2 ≤ a) = true := decide_eq_true h2
        rw [show vldK 6 a r p s = true from by unfold vldK; simp; omega]
        clear h0 h1 h2
        go_enter Tryd.func11, Tryd.ntmps11
        go_wp2
        go_ret
        exact ⟨rfl, hx⟩
      · have b2 : decide (2 ≤ a) = false := decide_eq_false h2
        rw [show vldK 6 a r p s = false from by unfold vldK; simp; omega]
        clear h0 h1 h2
        go_enter Tryd.func11, Tryd.ntmps11
        go_wp2
        go_ret
        exact ⟨rfl, hx⟩
    · have b1 : decide (p ≤ 4096) = false := decide_eq_false h1
      rw [show vldK 6 a r p s = false from by unfold vldK; simp; omega]
      clear h0 h1
      go_enter Tryd.func11, Tryd.ntmps11
      go_wp2
      go_ret
      exact ⟨rfl, hx⟩
  · have b0 : decide (1 ≤ p) = false := decide_eq_false h0
    rw [show vldK 6 a r p s = false from by unfold vldK; simp; omega]
    clear h0
    go_enter Tryd.func11, Tryd.ntmps11
    go_wp2
    go_ret
    exact ⟨rfl, hx⟩
set_option maxHeartbeats 4000000 in
theorem gvalid_0 (k a r p : Int) (s : Nat) (w : World) (g : 1 ≤ a ∧ a ≤ 4096 ∧ 0 ≤ r ∧ r ≤ 4096) (hk : k ≠ 1 ∧ k ≠ 2 ∧ k ≠ 3 ∧ k ≠ 4 ∧ k ≠ 5 ∧ k ≠ 6) : Calls Tryd.prog 11 #[.agg #[.int .i64 k, .int .i64 a, .int .i64 r, .int .i64 p, .int .u64 s]] w fun e w' => e = .returned (.bool false) ∧ Ext w w' := by
  have hx : Ext w (w.alloc (.cells #[.int .i64 k, .int .i64 a, .int .i64 r, .int .i64 p, .int .u64 s] 28)) := Ext.alloc (Below.refl _ _) _
  have d1 : decide (a < 1) = false := decide_eq_false (by omega)
  have d2 : decide (4096 < a) = false := decide_eq_false (by omega)
  have d3 : decide (r < 0) = false := decide_eq_false (by omega)
  have d4 : decide (4096 < r) = false := decide_eq_false (by omega)
  have k1 : (k == 1) = false := by rw [beq_eq_false_iff_ne]; omega
  have k2 : (k == 2) = false := by rw [beq_eq_false_iff_ne]; omega
  have k3 : (k == 3) = false := by rw [beq_eq_false_iff_ne]; omega
  have k4 : (k == 4) = false := by rw [beq_eq_false_iff_ne]; omega
  have k5 : (k == 5) = false := by rw [beq_eq_false_iff_ne]; omega
  have k6 : (k == 6) = false := by rw [beq_eq_false_iff_ne]; omega
  clear g hk
  go_enter Tryd.func11, Tryd.ntmps11
  go_wp2
  go_ret
  exact ⟨rfl, hx⟩
set_option maxHeartbeats 4000000 in
theorem gvalid_out (k a r p : Int) (s : Nat) (w : World) (g : ¬ (1 ≤ a ∧ a ≤ 4096 ∧ 0 ≤ r ∧ r ≤ 4096)) : Calls Tryd.prog 11 #[.agg #[.int .i64 k, .int .i64 a, .int .i64 r, .int .i64 p, .int .u64 s]] w fun e w' => e = .returned (.bool false) ∧ Ext w w' := by
  have hx : Ext w (w.alloc (.cells #[.int .i64 k, .int .i64 a, .int .i64 r, .int .i64 p, .int .u64 s] 28)) := Ext.alloc (Below.refl _ _) _
  have key : decide (a < 1) = true ∨ (decide (a < 1) = false ∧ decide (4096 < a) = true) ∨ (decide (a < 1) = false ∧ decide (4096 < a) = false ∧ decide (r < 0) = true) ∨ (decide (a < 1) = false ∧ decide (4096 < a) = false ∧ decide (r < 0) = false ∧ decide (4096 < r) = true) := by
    simp only [decide_eq_true_eq, decide_eq_false_iff_not]; omega
  clear g
  rcases key with d1 | ⟨d1, d2⟩ | ⟨d1, d2, d3⟩ | ⟨d1, d2, d3, d4⟩
  all_goals
    go_enter Tryd.func11, Tryd.ntmps11
    go_wp2
    go_ret
    exact ⟨rfl, hx⟩
theorem gvalid_any (k a r p : Int) (s : Nat) (w : World) : Calls Tryd.prog 11 #[.agg #[.int .i64 k, .int .i64 a, .int .i64 r, .int .i64 p, .int .u64 s]] w fun e w' => e = .returned (.bool (vldL k a r p s)) ∧ Ext w w' := by
  by_cases g : 1 ≤ a ∧ a ≤ 4096 ∧ 0 ≤ r ∧ r ≤ 4096
  · rw [vld_in g]
    by_cases hk : k ≠ 1 ∧ k ≠ 2 ∧ k ≠ 3 ∧ k ≠ 4 ∧ k ≠ 5 ∧ k ≠ 6
    · have e : vldK k a r p s = false := by
        unfold vldK
        rw [if_neg hk.1, if_neg hk.2.1, if_neg hk.2.2.1, if_neg hk.2.2.2.1, if_neg hk.2.2.2.2.1, if_neg hk.2.2.2.2.2]
      rw [e]
      exact gvalid_0 k a r p s w g hk
    · obtain rfl | rfl | rfl | rfl | rfl | rfl : k = 1 ∨ k = 2 ∨ k = 3 ∨ k = 4 ∨ k = 5 ∨ k = 6 := by omega
      · exact gvalid_1 a r p s w g
      · exact gvalid_2 a r p s w g
      · exact gvalid_3 a r p s w g
      · exact gvalid_4 a r p s w g
      · exact gvalid_5 a r p s w g
      · exact gvalid_6 a r p s w g
  · rw [vld_out g]
    exact gvalid_out k a r p s w g

end Go.Proofs.YthlnhemdhlkhfaaDoor
