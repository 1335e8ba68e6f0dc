import Derived.Test.YtbhfpofcebepiaaB30
/- The law BeladyTurns. -/
namespace Go.Proofs.Ytbhfpofcebepiaa
open Go.RowKit
set_option maxRecDepth 100000 in
set_option maxHeartbeats 4000000 in
theorem lawBeladyTurns_walk (v0 : Value) (a1 : Int) (W : World) (h : IntsArg .u32 W v0) (_ : (Lit.int .i64 a1).wf = true) :
    Calls Try.prog 4 #[v0, .int .i64 a1] W fun e W' => e = .returned (.bool true) ∧ Below W.heap.size W W' := by
  obtain ⟨a, c, L, rfl, hC⟩ := trace_arg h
  have cK : Box (∀ w, _) := ⟨fun w => known_any w⟩
  by_cases hL : 200 < L.length
  · have d1 : decide ((L.length : Int) > 200) = true := decide_eq_true (by omega)
    have d2 : decide ((200 : Int) < (L.length : Int)) = true := decide_eq_true (by omega)
    have d3 : decide (200 < L.length) = true := decide_eq_true hL
    clear h hC
    generalize L.length = n at *
    go_enter Try.func4, Try.ntmps4
    go_wp2_with (first | (go_at_call 9; (with_reducible refine (cK.out _).mono ?_); rintro e w1 ⟨rfl, hx1⟩))
    go_ret
    exact ⟨rfl, hx1⟩
  · have d1 : decide ((L.length : Int) > 200) = false := decide_eq_false (by omega)
    have d2 : decide ((200 : Int) < (L.length : Int)) = false := decide_eq_false (by omega)
    have d3 : decide (200 < L.length) = false := decide_eq_false hL
    by_cases hs : 1 ≤ a1 ∧ a1 ≤ 1024
    · obtain ⟨k, rfl⟩ : ∃ k : Nat, a1 = (k : Int) := ⟨a1.toNat, by omega⟩
      have h1 : 1 ≤ k := by omega
      have h2 : k ≤ 1024 := by omega
      have hol : (optTs L k).length = L.length := by simp [optTs]
      have hop := (opt_pol L k h1 L.length (Nat.le_refl _)).2.2.1
      have cZ : Box (∀ w, _) := ⟨fun w => rsize_any (k : Int) w⟩
      rw [show szB (k : Int) = true by unfold szB; simp; omega] at cZ
      have cT := Box.mk (Turns_ok a c L k W (by omega) h1 h2 hC)
      have cH : Box (∀ w, Ext W w → _) := ⟨fun w hx => Hits_ok a c L k w (by omega) h1 h2 (CellsAt.keep hx hC)⟩
      have cR : Box (∀ w, Ext W w → _) := ⟨fun w hx => rturns_any a c L k w (by omega) h1 h2 (CellsAt.keep hx hC)⟩
      have cS : Box (∀ a1 c1 a2 c2 w, CellsAt w a1 (rows TnB.cs (optTs L k)) → CellsAt w a2 (rows TnB.cs (optTs L k)) → Calls Try.prog 17 #[.slice a1 L.length c1, .slice a2 L.length c2] w fun e w' => e = .returned (.bool true) ∧ Ext w w') := ⟨fun a1 c1 a2 c2 w h1 h2 => by
        have := rsame_any a1 a2 c1 c2 (optTs L k) w (by omega) h1 h2
        rw [hol] at this
        exact this⟩
      have cRH : Box (∀ a1 c1 w, CellsAt w a1 (rows TnB.cs (optTs L k)) → Calls Try.prog 18 #[.slice a1 L.length c1] w fun e w' => e = .returned (.int .i64 (optH L k L.length : Nat)) ∧ w = w') := ⟨fun a1 c1 w h1 => by
        have := rhits_any a1 c1 (optTs L k) w (by omega) h1
        rw [hol, hop] at this
        exact this⟩
      clear h hC hol hop
      generalize optTs L k = TL at *
      generalize optH L k L.length = z at *
      generalize L.length = n at *
      go_enter Try.func4, Try.ntmps4
      go_wp2_with (first
        | (go_at_call 9; (with_reducible refine (cK.out _).mono ?_); rintro e w6 ⟨rfl, hx6⟩)
        | (go_at_call 13; (with_reducible refine (cT.out).mono ?_); rintro e w1 ⟨at1, ct1, rfl, hc1, hx1⟩; replace hc1 := Box.mk hc1)
        | (go_at_call 14; (with_reducible refine (cH.out _ hx1).mono ?_); rintro e w2 ⟨rfl, hx2⟩)
        | (go_at_call 15; (with_reducible refine (cZ.out _).mono ?_); rintro e w9 ⟨rfl, rfl⟩)
        | (go_at_call 16; (with_reducible refine (cR.out _ (Ext.trans' hx1 hx2)).mono ?_); rintro e w3 ⟨at3, ct3, rfl, hc3, hx3⟩; replace hc3 := Box.mk hc3)
        | (go_at_call 17; (with_reducible refine (cS.out _ _ _ _ _ (CellsAt.keep (Ext.trans' hx2 hx3) hc1.out) hc3.out).mono ?_); rintro e w4 ⟨rfl, hx4⟩)
        | (go_at_call 18; (with_reducible refine (cRH.out _ _ _ (CellsAt.keep hx4 hc3.out)).mono ?_); rintro e w9 ⟨rfl, rfl⟩))
      go_ret
      exact ⟨rfl, Ext.trans' hx1 (Ext.trans' hx2 (Ext.trans' hx3 (Ext.trans' hx4 hx6)))⟩
    · have ha : allB L.length 4096 a1 = 2 := by unfold allB; rw [if_neg (by omega), if_pos (by omega)]
      have cZ : Box (∀ w, _) := ⟨fun w => rsize_any a1 w⟩
      rw [show szB a1 = false by unfold szB; simp; omega] at cZ
      have cT := Box.mk (Turns_bad a L.length c a1 W (by rw [ha]; decide))
      have cH : Box (∀ w, _) := ⟨fun w => Hits_bad a L.length c a1 w (by rw [ha]; decide)⟩
      rw [ha] at cT cH
      clear h hC ha hs
      generalize L.length = n at *
      go_enter Try.func4, Try.ntmps4
      go_wp2_with (first
        | (go_at_call 9; (with_reducible refine (cK.out _).mono ?_); rintro e w6 ⟨rfl, hx6⟩)
        | (go_at_call 13; (with_reducible refine (cT.out).mono ?_); rintro e w1 ⟨rfl, hx1⟩)
        | (go_at_call 14; (with_reducible refine (cH.out _).mono ?_); rintro e w2 ⟨rfl, hx2⟩)
        | (go_at_call 15; (with_reducible refine (cZ.out _).mono ?_); rintro e w9 ⟨rfl, rfl⟩))
      go_ret
      exact ⟨rfl, Ext.trans' hx1 (Ext.trans' hx2 hx6)⟩
end Go.Proofs.Ytbhfpofcebepiaa
