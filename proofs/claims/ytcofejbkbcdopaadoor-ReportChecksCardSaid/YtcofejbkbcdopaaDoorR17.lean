import Derived.Test.YtcofejbkbcdopaaDoorR16
/- The walks of ReportRatios and ReportChecks; a struct of two numbers that comes in. -/
namespace Go.Proofs.YtcofejbkbcdopaaDoor
open Go.RowKit
set_option maxRecDepth 100000 in
set_option maxHeartbeats 4000000 in
theorem lawReportRatios_walk (a b : Int) (W : World) (wa : (Lit.int .i64 a).wf = true) (wb : (Lit.int .i64 b).wf = true) (ht : EnvV W) :
    Calls Tryd.prog 3 #[.int .i64 a, .int .i64 b] W fun e W' => e = .returned (.bool true) ∧ Below W.heap.size W W' := by
  have ch : Box _ := ⟨fun w => lhas_any a b w⟩
  have ck : Box (∀ w', Ext W w' → _) := ⟨fun w' h => known_any w' (ht.ext h)⟩
  have hx : Ext W W := Below.refl _ _
  cases hc : hasB a b with
  | false =>
    rw [hc] at ch
    have cs : Box _ := ⟨fun w => says_bad a b hc w⟩
    clear ht hc wa wb
    go_enter Tryd.func3, Tryd.ntmps3
    go_wp2_with (first
      | (go_at_call 7; (with_reducible refine (ch.out _).mono ?_); rintro e w' ⟨rfl, rfl⟩)
      | (go_at_call 8; (with_reducible refine (cs.out _).mono ?_); rintro e w1 ⟨rfl, hb⟩; replace hx := Ext.trans' hx hb)
      | (go_at_call 9; (with_reducible refine (ck.out _ hx).mono ?_); rintro e w1 ⟨rfl, hb⟩; replace hx := Ext.trans' hx hb))
    go_ret
    exact ⟨rfl, hx⟩
  | true =>
    rw [hc] at ch
    obtain ⟨h0, h1, h2⟩ := (hasB_iff a b).1 hc
    obtain ⟨a, rfl⟩ : ∃ n : Nat, a = n := ⟨a.toNat, by omega⟩
    obtain ⟨b, rfl⟩ : ∃ n : Nat, b = n := ⟨b.toNat, by omega⟩
    have cr : Box _ := ⟨fun w => lratio_any a b (by omega) (by omega) w⟩
    have cp : Box _ := ⟨fun w => lpercent_any a b (by omega) (by omega) w⟩
    have cs : Box (∀ w', Ext W w' → _) := ⟨fun w' h => says_ok a b (by omega) (by omega) w' (ht.ext h).env.tabs ⟨(ratioL a b).toArray⟩ ⟨(percentL a b).toArray⟩ rfl rfl⟩
    generalize (⟨(ratioL a b).toArray⟩ : ByteArray) = r at *
    generalize (⟨(percentL a b).toArray⟩ : ByteArray) = p at *
    clear ht hc wa wb h0 h1 h2
    go_enter Tryd.func3, Tryd.ntmps3
    go_wp2_with (first
      | (go_at_call 7; (with_reducible refine (ch.out _).mono ?_); rintro e w' ⟨rfl, rfl⟩)
      | (go_at_call 10; (with_reducible refine (cr.out _).mono ?_); rintro e w1 ⟨rfl, hb⟩; replace hx := Ext.trans' hx hb)
      | (go_at_call 11; (with_reducible refine (cp.out _).mono ?_); rintro e w1 ⟨rfl, hb⟩; replace hx := Ext.trans' hx hb)
      | (go_at_call 8; (with_reducible refine (cs.out _ hx).mono ?_); rintro e w1 ⟨rfl, hb⟩; replace hx := Ext.trans' hx hb)
      | (go_at_call 9; (with_reducible refine (ck.out _ hx).mono ?_); rintro e w1 ⟨rfl, hb⟩; replace hx := Ext.trans' hx hb))
    go_ret
    exact ⟨rfl, hx⟩
/-- Two numbers that come in. -/
def TwoArg (v : Value) : Prop := ∃ n k : Int, v = .agg #[.int .i64 n, .int .i64 k] ∧ (Lit.int .i64 n).wf = true ∧ (Lit.int .i64 k).wf = true
theorem open_two {P : Program} {H : Type} {enc : TypeId × Value → H} {t : TypeId} {f0 f1 : Field} {base : Nat} {r : Reach} {b0 : Nat} {W : World} {v : Value} {d : DataW H} {p : List MemPlace} {sp : Nat → Bool} {held : Bool}
    (hs : P.underlying t = some (.struct #[f0, f1])) (hone : Deep.oneCellFields P #[f0, f1] = true) (hC : P.cellsOf t = 2)
    (h0 : P.underlying f0.type = some (.int .i64)) (h1 : P.underlying f1.type = some (.int .i64))
    (ho : Value.okWide P W r b0 t v) (h : DataW.Trod enc P W base sp held t v d p) : TwoArg v := by
  obtain ⟨cs, rfl, hsz, hall⟩ := open_flat hs hone hC ho h
  obtain ⟨c0, y0, n0, e0, t0⟩ := hall 0 f0 rfl
  obtain ⟨c1, y1, n1, e1, t1⟩ := hall 1 f1 rfl
  obtain ⟨a, q0, _, w0⟩ := DataW.trod_int h0 t0
  obtain ⟨b, q1, _, w1⟩ := DataW.trod_int h1 t1
  simp only [List.cons.injEq, and_true] at q0 q1
  subst q0 q1
  refine ⟨a, b, ?_, w0, w1⟩
  congr 1
  apply Array.ext'
  apply List.ext_getElem?
  intro i
  match i with
  | 0 => simpa using e0
  | 1 => simpa using e1
  | i + 2 =>
    have h8 : cs.toList.length = 2 := by simpa using hsz
    rw [List.getElem?_eq_none (by omega), List.getElem?_eq_none (by simp)]
def ldY : Op := Op.load 9 (Operand.tmp 61)
theorem why_cellB {w : World} {B : Nat} {T : TypeId} (h : w.heap[B]? = some (.cells #[.string ⟨#[116, 105, 109, 101]⟩, .string ⟨#[101, 118, 101, 110, 116]⟩, .string ⟨#[101, 120, 112, 105, 114, 121]⟩, .string ⟨#[118, 105, 99, 116, 105, 109]⟩, .string ⟨#[98, 117, 100, 103, 101, 116]⟩, .string ⟨#[114, 101, 97, 100]⟩, .string ⟨#[99, 117, 114, 115, 111, 114]⟩, .string ⟨#[101, 114, 114, 111, 114]⟩] T (0, 0))) (k : Nat) (h1 : 1 ≤ k) (hk : k ≤ 8) : w.cell? ⟨B, k - 1, none⟩ = some (.string (whyS k)) := by
  rw [Lib.cell_of_heap h]
  obtain rfl | rfl | rfl | rfl | rfl | rfl | rfl | rfl : k = 1 ∨ k = 2 ∨ k = 3 ∨ k = 4 ∨ k = 5 ∨ k = 6 ∨ k = 7 ∨ k = 8 := by omega
  all_goals rfl
set_option maxRecDepth 100000 in
set_option maxHeartbeats 8000000 in
theorem checks_easy (n k : Int) (W : World) (ht : EnvV W) (h : (n = -1 ∧ k = 0) ∨ (¬ (n = -1 ∧ k = 0) ∧ (n < 0 ∨ k < 1 ∨ 8 < k))) :
    Calls Tryd.prog 5 #[.agg #[.int .i64 n, .int .i64 k]] W fun e W' => e = .returned (.bool true) ∧ Below W.heap.size W W' := by
  have ck : Box (∀ w', Ext W w' → _) := ⟨fun w' h => known_any w' (ht.ext h)⟩
  have hx : Ext W (W.alloc (.cells #[.int .i64 n, .int .i64 k] 45)) := Ext.alloc (Below.refl _ _) _
  have hB := newblk W (.cells #[.int .i64 n, .int .i64 k] 45)
  obtain ⟨m0, m1⟩ := blk2 hB
  rcases h with ⟨rfl, rfl⟩ | ⟨h1, h2⟩
  · have cc : Box _ := ⟨fun w => check_fine w⟩
    clear ht
    go_enter Tryd.func5, Tryd.ntmps5
    go_wp2_with (first
      | (go_at_call 17; (with_reducible refine (cc.out _).mono ?_); rintro e w1 ⟨rfl, hb⟩; replace hx := Ext.trans' hx hb; replace hB := Ext.blk hb hB; clear m0 m1; obtain ⟨m0, m1⟩ := blk2 hB)
      | (go_at_call 9; (with_reducible refine (ck.out _ hx).mono ?_); rintro e w1 ⟨rfl, hb⟩; replace hx := Ext.trans' hx hb))
    go_ret
    exact ⟨rfl, hx⟩
  · have cc : Box _ := ⟨fun w => check_bad n k h1 h2 w⟩
    have key : ((n == -1) = false ∨ ((n == -1) = true ∧ (k == 0) = false)) ∧ (decide (n < 0) = true ∨ (decide (n < 0) = false ∧ decide (k < 1) = true) ∨ (decide (n < 0) = false ∧ decide (k < 1) = false ∧ decide ((8 : Int) < k) = true)) := by
      constructor
      · by_cases h3 : n = -1
        · exact Or.inr ⟨by rw [h3]; rfl, by rw [beq_eq_false_iff_ne]; exact fun e => h1 ⟨h3, e⟩⟩
        · exact Or.inl (by rw [beq_eq_false_iff_ne]; exact h3)
      · by_cases h3 : n < 0
        · exact Or.inl (decide_eq_true h3)
        · by_cases h4 : k < 1
          · exact Or.inr (Or.inl ⟨decide_eq_false h3, decide_eq_true h4⟩)
          · exact Or.inr (Or.inr ⟨decide_eq_false h3, decide_eq_false h4, decide_eq_true (by omega)⟩)
    clear h1 h2 ht
    obtain ⟨k1, k2⟩ := key
    rcases k1 with d1 | ⟨d1, d2⟩
    all_goals
      rcases k2 with d3 | ⟨d3, d4⟩ | ⟨d3, d4, d5⟩
      all_goals
        go_enter Tryd.func5, Tryd.ntmps5
        go_wp2_with (first
          | (go_at_call 17; (with_reducible refine (cc.out _).mono ?_); rintro e w1 ⟨rfl, hb⟩; replace hx := Ext.trans' hx hb; replace hB := Ext.blk hb hB; clear m0 m1; obtain ⟨m0, m1⟩ := blk2 hB)
          | (go_at_call 9; (with_reducible refine (ck.out _ hx).mono ?_); rintro e w1 ⟨rfl, hb⟩; replace hx := Ext.trans' hx hb))
        go_ret
        exact ⟨rfl, hx⟩
end Go.Proofs.YtcofejbkbcdopaaDoor
