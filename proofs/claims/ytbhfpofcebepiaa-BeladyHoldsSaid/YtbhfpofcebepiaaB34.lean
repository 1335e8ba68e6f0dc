import Derived.Test.YtbhfpofcebepiaaB33
/- The law BeladyBest. -/
namespace Go.Proofs.Ytbhfpofcebepiaa
open Go.RowKit
theorem rbest_zero (a : Option Addr) (c : Nat) (L : List Nat) (k : Nat) (a3 : Option Addr) (m c3 : Nat) (w : World) :
    Calls Try.prog 23 #[.slice a L.length c, .int .i64 (k : Nat), .int .i64 (L.length : Nat), .slice a3 m c3] w fun e w' => e = .returned (.int .i64 0) ∧ Ext w w' := by
  generalize L.length = n
  go_enter Try.func23, Try.ntmps23
  go_wp2
  go_ret
  exact ⟨rfl, Below.refl _ _⟩
theorem rbest_any (a : Option Addr) (c : Nat) (L : List Nat) (k : Nat) (hL : L.length ≤ 14) :
    ∀ (f i : Nat) (O : List Nat) (a3 : Option Addr) (c3 : Nat) (w : World), i + f = L.length → O.length ≤ i → CellsAt w a (u32L L) → CellsAt w a3 (u32L O) → (a3 = none → c3 = 0) →
    Calls Try.prog 23 #[.slice a L.length c, .int .i64 (k : Nat), .int .i64 (i : Nat), .slice a3 O.length c3] w fun e w' => e = .returned (.int .i64 (bestB L k f i O : Nat)) ∧ Ext w w' := by
  intro f
  induction f with
  | zero =>
    intro i O a3 c3 w hi hO hC hK hnil
    obtain rfl : i = L.length := by omega
    exact rbest_zero a c L k a3 O.length c3 w
  | succ f ih =>
    intro i O a3 c3 w hi hO hC hK hnil
    refine rbest_step a c L k f i hL hi (fun O a3 c3 w h1 h2 h3 h4 => ?_) O a3 c3 w hO hC hK hnil
    have := ih (i + 1) O a3 c3 w (by omega) h1 h2 h3 h4
    rw [show (((i + 1 : Nat)) : Int) = (i : Int) + 1 by omega] at this
    exact this
set_option maxRecDepth 100000 in
set_option maxHeartbeats 4000000 in
theorem lawBeladyBest_walk (v0 : Value) (a1 : Int) (W : World) (h : IntsArg .u32 W v0) (_ : (Lit.int .i64 a1).wf = true) :
    Calls Try.prog 6 #[v0, .int .i64 a1] W fun e W' => e = .returned (.bool true) ∧ Below W.heap.size W W' := by
  obtain ⟨a, c, L, rfl, hC⟩ := trace_arg h
  have cK : Box (∀ w, _) := ⟨fun w => known_any w⟩
  by_cases hL : 14 < L.length
  · have d1 : decide ((L.length : Int) > 14) = true := decide_eq_true (by omega)
    have d2 : decide ((14 : Int) < (L.length : Int)) = true := decide_eq_true (by omega)
    have d3 : decide (14 < L.length) = true := decide_eq_true hL
    have ha : allB L.length 14 a1 = 5 := by unfold allB; rw [if_pos (by omega)]
    have cB := Box.mk (Best_bad a L.length c a1 W (by rw [ha]; decide))
    rw [ha] at cB
    clear h hC ha
    generalize L.length = n at *
    go_enter Try.func6, Try.ntmps6
    go_wp2_with (first
      | (go_at_call 22; (with_reducible refine (cB.out).mono ?_); rintro e w1 ⟨rfl, hx1⟩)
      | (go_at_call 9; (with_reducible refine (cK.out _).mono ?_); rintro e w2 ⟨rfl, hx2⟩))
    go_ret
    exact ⟨rfl, Ext.trans' hx1 hx2⟩
  · have d1 : decide ((L.length : Int) > 14) = false := decide_eq_false (by omega)
    have d2 : decide ((14 : Int) < (L.length : Int)) = false := decide_eq_false (by omega)
    have d3 : decide (14 < L.length) = false := decide_eq_false hL
    by_cases hs : 1 ≤ a1 ∧ a1 ≤ 1024
    · obtain ⟨k, rfl⟩ : ∃ k : Nat, a1 = (k : Int) := ⟨a1.toNat, by omega⟩
      have h1 : 1 ≤ k := by omega
      have h2 : k ≤ 1024 := by omega
      have cZ : Box (∀ w, _) := ⟨fun w => rsize_any (k : Int) w⟩
      rw [show szB (k : Int) = true by unfold szB; simp; omega] at cZ
      have cB := Box.mk (Best_ok a c L k W (by omega) h1 h2 hC)
      have cR : Box (∀ w, Ext W w → Calls Try.prog 23 #[.slice a L.length c, .int .i64 (k : Nat), .int .i64 0, .slice none 0 0] w fun e w' => e = .returned (.int .i64 (optH L k L.length : Nat)) ∧ Ext w w') := ⟨fun w hx => by
        have := rbest_any a c L k (by omega) L.length 0 [] none 0 w (by omega) (Nat.le_refl _) (CellsAt.keep hx hC) (fun j u hj => by simp [u32L] at hj) (fun _ => rfl)
        rw [best_eq L k h1] at this
        exact this⟩
      obtain ⟨z, hz⟩ : ∃ z, z = optH L k L.length := ⟨_, rfl⟩
      rw [← hz] at cB cR
      have cG : Box (∀ w, _) := ⟨fun w => gives_any (z : Int) 0 (z : Int) w⟩
      rw [show decide ((z : Int) = (z : Int) ∧ (0 : Int) = 0) = true by simp] at cG
      clear h hC hz
      by_cases h9 : 9 < L.length
      · have e1 : decide ((L.length : Int) > 9) = true := decide_eq_true (by omega)
        have e2 : decide ((9 : Int) < (L.length : Int)) = true := decide_eq_true (by omega)
        have e3 : decide (9 < L.length) = true := decide_eq_true h9
        by_cases hk2 : 2 < k
        · have f1 : decide ((k : Int) > 2) = true := decide_eq_true (by omega)
          have f2 : decide ((2 : Int) < (k : Int)) = true := decide_eq_true (by omega)
          have f3 : decide (2 < k) = true := decide_eq_true hk2
          generalize L.length = n at *
          go_enter Try.func6, Try.ntmps6
          go_wp2_with (first
            | (go_at_call 22; (with_reducible refine (cB.out).mono ?_); rintro e w1 ⟨rfl, hx1⟩)
            | (go_at_call 15; (with_reducible refine (cZ.out _).mono ?_); rintro e w9 ⟨rfl, rfl⟩)
            | (go_at_call 9; (with_reducible refine (cK.out _).mono ?_); rintro e w2 ⟨rfl, hx2⟩))
          go_ret
          exact ⟨rfl, Ext.trans' hx1 hx2⟩
        · have f1 : decide ((k : Int) > 2) = false := decide_eq_false (by omega)
          have f2 : decide ((2 : Int) < (k : Int)) = false := decide_eq_false (by omega)
          have f3 : decide (2 < k) = false := decide_eq_false hk2
          generalize L.length = n at *
          go_enter Try.func6, Try.ntmps6
          go_wp2_with (first
            | (go_at_call 22; (with_reducible refine (cB.out).mono ?_); rintro e w1 ⟨rfl, hx1⟩)
            | (go_at_call 15; (with_reducible refine (cZ.out _).mono ?_); rintro e w9 ⟨rfl, rfl⟩)
            | (go_at_call 23; (with_reducible refine (cR.out _ hx1).mono ?_); rintro e w3 ⟨rfl, hx3⟩)
            | (go_at_call 21; (with_reducible refine (cG.out _).mono ?_); rintro e w9 ⟨rfl, rfl⟩)
            | (go_at_call 9; (with_reducible refine (cK.out _).mono ?_); rintro e w2 ⟨rfl, hx2⟩))
          go_ret
          exact ⟨rfl, Ext.trans' hx1 (Ext.trans' hx3 hx2)⟩
      · have e1 : decide ((L.length : Int) > 9) = false := decide_eq_false (by omega)
        have e2 : decide ((9 : Int) < (L.length : Int)) = false := decide_eq_false (by omega)
        have e3 : decide (9 < L.length) = false := decide_eq_false h9
        generalize L.length = n at *
        go_enter Try.func6, Try.ntmps6
        go_wp2_with (first
          | (go_at_call 22; (with_reducible refine (cB.out).mono ?_); rintro e w1 ⟨rfl, hx1⟩)
          | (go_at_call 15; (with_reducible refine (cZ.out _).mono ?_); rintro e w9 ⟨rfl, rfl⟩)
          | (go_at_call 23; (with_reducible refine (cR.out _ hx1).mono ?_); rintro e w3 ⟨rfl, hx3⟩)
          | (go_at_call 21; (with_reducible refine (cG.out _).mono ?_); rintro e w9 ⟨rfl, rfl⟩)
          | (go_at_call 9; (with_reducible refine (cK.out _).mono ?_); rintro e w2 ⟨rfl, hx2⟩))
        go_ret
        exact ⟨rfl, Ext.trans' hx1 (Ext.trans' hx3 hx2)⟩
    · have ha : allB L.length 14 a1 = 2 := by unfold allB; rw [if_neg (by omega), if_pos (by omega)]
      have cZ : Box (∀ w, _) := ⟨fun w => rsize_any a1 w⟩
      rw [show szB a1 = false by unfold szB; simp; omega] at cZ
      have cB := Box.mk (Best_bad a L.length c a1 W (by rw [ha]; decide))
      rw [ha] at cB
      clear h hC ha hs
      generalize L.length = n at *
      go_enter Try.func6, Try.ntmps6
      go_wp2_with (first
        | (go_at_call 22; (with_reducible refine (cB.out).mono ?_); rintro e w1 ⟨rfl, hx1⟩)
        | (go_at_call 15; (with_reducible refine (cZ.out _).mono ?_); rintro e w9 ⟨rfl, rfl⟩)
        | (go_at_call 9; (with_reducible refine (cK.out _).mono ?_); rintro e w2 ⟨rfl, hx2⟩))
      go_ret
      exact ⟨rfl, Ext.trans' hx1 hx2⟩
end Go.Proofs.Ytbhfpofcebepiaa
