import Derived.Test.YtbhfpofcebepiaaB40
/- The law BeladyHolds. -/
namespace Go.Proofs.Ytbhfpofcebepiaa
open Go.RowKit
set_option maxRecDepth 100000 in
set_option maxHeartbeats 4000000 in
theorem lawBeladyHolds_walk (v0 : Value) (a1 : Int) (v2 : Value) (W : World) (h : IntsArg .u32 W v0) (_ : (Lit.int .i64 a1).wf = true) (h2 : IntsArg .u8 W v2) :
    Calls Try.prog 8 #[v0, .int .i64 a1, v2] W fun e W' => e = .returned (.bool true) ∧ Below W.heap.size W W' := by
  obtain ⟨a, c, L, rfl, hC⟩ := trace_arg h
  obtain ⟨b, d, N, rfl, hD, hN⟩ := numbers_arg h2
  have cK : Box (∀ w, _) := ⟨fun w => known_any w⟩
  by_cases g0 : 100 < L.length
  · have d0 : decide ((L.length : Int) > 100) = true := decide_eq_true (by omega)
    have e0 : decide ((100 : Int) < (L.length : Int)) = true := decide_eq_true (by omega)
    have f0 : decide (100 < L.length) = true := decide_eq_true g0
    clear h h2 hC hD hN g0
    generalize L.length = n at *
    generalize N.length = m at *
    go_enter Try.func8, Try.ntmps8
    go_wp2_with (first | (go_at_call 9; (with_reducible refine (cK.out _).mono ?_); rintro e w1 ⟨rfl, hx1⟩))
    go_ret
    exact ⟨rfl, hx1⟩
  · have d0 : decide ((L.length : Int) > 100) = false := decide_eq_false (by omega)
    have e0 : decide ((100 : Int) < (L.length : Int)) = false := decide_eq_false (by omega)
    have f0 : decide (100 < L.length) = false := decide_eq_false g0
    by_cases g1 : a1 < 1
    · have d1 : decide (a1 < 1) = true := decide_eq_true g1
      clear h h2 hC hD hN g0 g1
      generalize L.length = n at *
      generalize N.length = m at *
      go_enter Try.func8, Try.ntmps8
      go_wp2_with (first | (go_at_call 9; (with_reducible refine (cK.out _).mono ?_); rintro e w1 ⟨rfl, hx1⟩))
      go_ret
      exact ⟨rfl, hx1⟩
    · have d1 : decide (a1 < 1) = false := decide_eq_false g1
      by_cases g2 : a1 > 20
      · have d2 : decide (a1 > 20) = true := decide_eq_true g2
        have e2 : decide (20 < a1) = true := decide_eq_true g2
        clear h h2 hC hD hN g0 g1 g2
        generalize L.length = n at *
        generalize N.length = m at *
        go_enter Try.func8, Try.ntmps8
        go_wp2_with (first | (go_at_call 9; (with_reducible refine (cK.out _).mono ?_); rintro e w1 ⟨rfl, hx1⟩))
        go_ret
        exact ⟨rfl, hx1⟩
      · have d2 : decide (a1 > 20) = false := decide_eq_false g2
        have e2 : decide (20 < a1) = false := decide_eq_false g2
        by_cases g3 : 100 < N.length
        · have d3 : decide ((N.length : Int) > 100) = true := decide_eq_true (by omega)
          have e3 : decide ((100 : Int) < (N.length : Int)) = true := decide_eq_true (by omega)
          have f3 : decide (100 < N.length) = true := decide_eq_true g3
          clear h h2 hC hD hN g0 g1 g2 g3
          generalize L.length = n at *
          generalize N.length = m at *
          go_enter Try.func8, Try.ntmps8
          go_wp2_with (first | (go_at_call 9; (with_reducible refine (cK.out _).mono ?_); rintro e w1 ⟨rfl, hx1⟩))
          go_ret
          exact ⟨rfl, hx1⟩
        · obtain ⟨k, rfl⟩ : ∃ k : Nat, a1 = (k : Int) := ⟨a1.toNat, by omega⟩
          exact holds_core a b c d L N k W (by omega) (by omega) (by omega) (by omega) hN hC hD
end Go.Proofs.Ytbhfpofcebepiaa
