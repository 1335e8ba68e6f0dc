import Derived.Test.YtbhfpofcebepiaaB37
/- The law BeladyLongs. -/
namespace Go.Proofs.Ytbhfpofcebepiaa
open Go.RowKit
set_option maxRecDepth 100000 in
set_option maxHeartbeats 4000000 in
theorem lawBeladyLongs_walk (a0 a1 a2 : Int) (W : World) (_ : (Lit.int .i64 a0).wf = true) (_ : (Lit.int .i64 a1).wf = true) (_ : (Lit.int .i64 a2).wf = true) :
    Calls Try.prog 7 #[.int .i64 a0, .int .i64 a1, .int .i64 a2] W fun e W' => e = .returned (.bool true) ∧ Below W.heap.size W W' := by
  have cK : Box (∀ w, _) := ⟨fun w => known_any w⟩
  by_cases h0 : a0 < 4094
  · have d0 : decide (a0 < 4094) = true := decide_eq_true h0
    clear h0
    go_enter Try.func7, Try.ntmps7
    go_wp2_with (first | (go_at_call 9; (with_reducible refine (cK.out _).mono ?_); rintro e w1 ⟨rfl, hx1⟩))
    go_ret
    exact ⟨rfl, hx1⟩
  · have d0 : decide (a0 < 4094) = false := decide_eq_false h0
    by_cases h1 : a0 > 4098
    · have d1 : decide (a0 > 4098) = true := decide_eq_true h1
      have e1 : decide (4098 < a0) = true := decide_eq_true h1
      clear h0 h1
      go_enter Try.func7, Try.ntmps7
      go_wp2_with (first | (go_at_call 9; (with_reducible refine (cK.out _).mono ?_); rintro e w1 ⟨rfl, hx1⟩))
      go_ret
      exact ⟨rfl, hx1⟩
    · have d1 : decide (a0 > 4098) = false := decide_eq_false h1
      have e1 : decide (4098 < a0) = false := decide_eq_false h1
      by_cases h2 : a1 < 1
      · have d2 : decide (a1 < 1) = true := decide_eq_true h2
        clear h0 h1 h2
        go_enter Try.func7, Try.ntmps7
        go_wp2_with (first | (go_at_call 9; (with_reducible refine (cK.out _).mono ?_); rintro e w1 ⟨rfl, hx1⟩))
        go_ret
        exact ⟨rfl, hx1⟩
      · have d2 : decide (a1 < 1) = false := decide_eq_false h2
        by_cases h3 : a1 > 8
        · have d3 : decide (a1 > 8) = true := decide_eq_true h3
          have e3 : decide (8 < a1) = true := decide_eq_true h3
          clear h0 h1 h2 h3
          go_enter Try.func7, Try.ntmps7
          go_wp2_with (first | (go_at_call 9; (with_reducible refine (cK.out _).mono ?_); rintro e w1 ⟨rfl, hx1⟩))
          go_ret
          exact ⟨rfl, hx1⟩
        · have d3 : decide (a1 > 8) = false := decide_eq_false h3
          have e3 : decide (8 < a1) = false := decide_eq_false h3
          by_cases h4 : a2 < 1
          · have d4 : decide (a2 < 1) = true := decide_eq_true h4
            clear h0 h1 h2 h3 h4
            go_enter Try.func7, Try.ntmps7
            go_wp2_with (first | (go_at_call 9; (with_reducible refine (cK.out _).mono ?_); rintro e w1 ⟨rfl, hx1⟩))
            go_ret
            exact ⟨rfl, hx1⟩
          · have d4 : decide (a2 < 1) = false := decide_eq_false h4
            by_cases h5 : a2 > 8
            · have d5 : decide (a2 > 8) = true := decide_eq_true h5
              have e5 : decide (8 < a2) = true := decide_eq_true h5
              clear h0 h1 h2 h3 h4 h5
              go_enter Try.func7, Try.ntmps7
              go_wp2_with (first | (go_at_call 9; (with_reducible refine (cK.out _).mono ?_); rintro e w1 ⟨rfl, hx1⟩))
              go_ret
              exact ⟨rfl, hx1⟩
            · have d5 : decide (a2 > 8) = false := decide_eq_false h5
              have e5 : decide (8 < a2) = false := decide_eq_false h5
              clear d0 d1 d2 d3 d4 d5 e1 e3 e5
              obtain ⟨n, rfl⟩ : ∃ n : Nat, a0 = (n : Int) := ⟨a0.toNat, by omega⟩
              obtain ⟨q, rfl⟩ : ∃ q : Nat, a1 = (q : Int) := ⟨a1.toNat, by omega⟩
              obtain ⟨k, rfl⟩ : ∃ k : Nat, a2 = (k : Int) := ⟨a2.toNat, by omega⟩
              exact longs_core n q k W (by omega) (by omega) (by omega) (by omega) (by omega) (by omega)
end Go.Proofs.Ytbhfpofcebepiaa
