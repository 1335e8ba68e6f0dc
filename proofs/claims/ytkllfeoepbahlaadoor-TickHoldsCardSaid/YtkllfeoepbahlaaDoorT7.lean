import Derived.Test.YtkllfeoepbahlaaDoorT6
import Derived.Laws.BitsAllLaws
/- The laws' walks: TickSums, TickDues, TickDigits, TickTexts, TickHolds. -/
namespace Go.Proofs.YtkllfeoepbahlaaDoor
open Go.RowKit

theorem nat_u64 {a : Int} (h : (Lit.int .u64 a).wf = true) : ∃ n : Nat, a = n ∧ n < 18446744073709551616 := by
  obtain ⟨h0, h1⟩ := wf_u64 h
  obtain ⟨n, rfl⟩ := Int.eq_ofNat_of_zero_le h0
  exact ⟨n, rfl, by omega⟩

set_option maxHeartbeats 2000000 in
theorem lawTickSums_walk (a0 a1 a2 : Int) (v : Value) (W : World) (w0 : (Lit.int .u64 a0).wf = true) (w1 : (Lit.int .u64 a1).wf = true) (w2 : (Lit.int .u64 a2).wf = true) (w3 : IntsArg .u64 W v) (ht : Env W) :
    Calls Tryd.prog 3 #[.int .u64 a0, .int .u64 a1, .int .u64 a2, v] W fun e W' => e = .returned (.bool true) ∧ Below W.heap.size W W' := by
  obtain ⟨a, rfl, ha⟩ := nat_u64 w0
  obtain ⟨b, rfl, hb⟩ := nat_u64 w1
  obtain ⟨t, rfl, htt⟩ := nat_u64 w2
  obtain ⟨p, n, c, zs, rfl, rfl, hnc, hcm, hz, hcells⟩ := w3
  have hzb : ∀ z ∈ zs, 0 ≤ z ∧ z ≤ 18446744073709551615 := fun z hm => by have := wf_u64 (hz z hm); omega
  have c1 : Box _ := ⟨fun w => add_any a t w ha htt⟩
  have c2 : Box _ := ⟨fun w => refAdd_any a t w ha htt⟩
  have c3 : Box _ := ⟨fun w => eff_any a b w ha hb⟩
  have c4 : Box _ := ⟨fun w => refEff_any a b w ha hb⟩
  have c5 : Box _ := ⟨fun (_ : Unit) => first_any p c zs W (by omega) hzb hcells⟩
  have c6 : Box _ := ⟨fun (_ : Unit) => refFirst_any p c zs W (by omega) hzb hcells⟩
  have ck : Box (∀ w, Ext W w → Calls Tryd.prog 8 #[] w fun e w' => e = .returned (.bool true) ∧ Ext w w') := ⟨fun w h => known_any w (ht.ext h)⟩
  generalize addN a t = x1 at *
  generalize max a b = x2 at *
  generalize first zs = x3 at *
  generalize zs.length = n at *
  have hx : Ext W W := Below.refl _ _
  clear w0 w1 w2 ht hz hzb hcells ha hb htt
  by_cases h : n ≤ 40
  all_goals
    go_enter Tryd.func3, Tryd.ntmps3
    go_wp2_with (first
      | (go_at_call 9; (with_reducible refine (c1.out _).mono ?_); rintro e w' ⟨rfl, rfl⟩) | (go_at_call 10; (with_reducible refine (c2.out _).mono ?_); rintro e w' ⟨rfl, rfl⟩) | (go_at_call 11; (with_reducible refine (c3.out _).mono ?_); rintro e w' ⟨rfl, rfl⟩) | (go_at_call 12; (with_reducible refine (c4.out _).mono ?_); rintro e w' ⟨rfl, rfl⟩)
      | (go_at_call 13; (with_reducible refine (c5.out ()).mono ?_); rintro e w' ⟨rfl, rfl⟩) | (go_at_call 14; (with_reducible refine (c6.out ()).mono ?_); rintro e w' ⟨rfl, rfl⟩)
      | (go_at_call 8; (with_reducible refine (ck.out _ hx).mono ?_); rintro e w1 ⟨rfl, hb⟩; have hx := Ext.trans' hx hb))
    go_ret
    exact ⟨rfl, hx⟩

set_option maxHeartbeats 2000000 in
theorem lawTickDues_walk (a0 a1 : Int) (W : World) (w0 : (Lit.int .u64 a0).wf = true) (w1 : (Lit.int .u64 a1).wf = true) (ht : Env W) :
    Calls Tryd.prog 4 #[.int .u64 a0, .int .u64 a1] W fun e W' => e = .returned (.bool true) ∧ Below W.heap.size W W' := by
  obtain ⟨a, rfl, ha⟩ := nat_u64 w0
  obtain ⟨b, rfl, hb⟩ := nat_u64 w1
  have c1 : Box _ := ⟨fun w => due_any a b w ha hb⟩
  have c2 : Box _ := ⟨fun w => refDue_any a b w ha hb⟩
  have c3 : Box _ := ⟨fun w => left_any a b w ha hb⟩
  have c4 : Box _ := ⟨fun w => refLeft_any a b w ha hb⟩
  have ck : Box (∀ w, Ext W w → Calls Tryd.prog 8 #[] w fun e w' => e = .returned (.bool true) ∧ Ext w w') := ⟨fun w h => known_any w (ht.ext h)⟩
  generalize dueB a b = x1 at *
  generalize leftN a b = x2 at *
  have hx : Ext W W := Below.refl _ _
  clear w0 w1 ht ha hb
  go_enter Tryd.func4, Tryd.ntmps4
  go_wp2_with (first
    | (go_at_call 15; (with_reducible refine (c1.out _).mono ?_); rintro e w' ⟨rfl, rfl⟩) | (go_at_call 16; (with_reducible refine (c2.out _).mono ?_); rintro e w' ⟨rfl, rfl⟩) | (go_at_call 17; (with_reducible refine (c3.out _).mono ?_); rintro e w' ⟨rfl, rfl⟩) | (go_at_call 18; (with_reducible refine (c4.out _).mono ?_); rintro e w' ⟨rfl, rfl⟩)
    | (go_at_call 8; (with_reducible refine (ck.out _ hx).mono ?_); rintro e w1 ⟨rfl, hb⟩; have hx := Ext.trans' hx hb))
  go_ret
  exact ⟨rfl, hx⟩

set_option maxHeartbeats 2000000 in
theorem lawTickDigits_walk (a0 l : Int) (W : World) (w0 : (Lit.int .u64 a0).wf = true) (_ : (Lit.int .i64 l).wf = true) (ht : Env W) :
    Calls Tryd.prog 5 #[.int .u64 a0, .int .i64 l] W fun e W' => e = .returned (.bool true) ∧ Below W.heap.size W W' := by
  obtain ⟨a, rfl, ha⟩ := nat_u64 w0
  have c1 : Box _ := ⟨fun w => refDigit_any a l w ha⟩
  have c2 : Box _ := ⟨fun w => digitf_any a l _ _ w ha rfl rfl⟩
  have ck : Box (∀ w, Ext W w → Calls Tryd.prog 8 #[] w fun e w' => e = .returned (.bool true) ∧ Ext w w') := ⟨fun w h => known_any w (ht.ext h)⟩
  generalize digV a l = x1 at *
  generalize digE l = x2 at *
  have hx : Ext W W := Below.refl _ _
  clear w0 ht ha
  go_enter Tryd.func5, Tryd.ntmps5
  go_wp2_with (first
    | (go_at_call 19; (with_reducible refine (c1.out _).mono ?_); rintro e w' ⟨rfl, rfl⟩) | (go_at_call 20; (with_reducible refine (c2.out _).mono ?_); rintro e w' ⟨rfl, rfl⟩)
    | (go_at_call 8; (with_reducible refine (ck.out _ hx).mono ?_); rintro e w1 ⟨rfl, hb⟩; have hx := Ext.trans' hx hb))
  go_ret
  exact ⟨rfl, hx⟩

set_option maxHeartbeats 2000000 in
theorem lawTickTexts_walk (a0 : Int) (s : ByteArray) (W : World) (w0 : (Lit.int .u64 a0).wf = true) (hs : s.size ≤ maxLen) (ht : Env W) :
    Calls Tryd.prog 6 #[.int .u64 a0, .string s] W fun e W' => e = .returned (.bool true) ∧ Below W.heap.size W W' := by
  obtain ⟨a, rfl, ha⟩ := nat_u64 w0
  unfold maxLen at hs
  have ck : Box (∀ w, Ext W w → Calls Tryd.prog 8 #[] w fun e w' => e = .returned (.bool true) ∧ Ext w w') := ⟨fun w h => known_any w (ht.ext h)⟩
  have hx : Ext W W := Below.refl _ _
  by_cases h : s.size ≤ 40
  · have c1 : Box _ := ⟨fun w => refParse_any s w (by omega)⟩
    have c2 : Box (∀ w, Ext W w → _) := ⟨fun w h => text_any a w ha (ht.tabs.ext h)⟩
    have c3 : Box _ := ⟨fun w => refText_any a w ha⟩
    have c4 : Box (∀ w, Ext W w → _) := ⟨fun w h => parsesf_any s _ _ w (by omega) (ht.ext h) rfl rfl⟩
    generalize txt a = x at *
    cases hp : parseT s.data.toList with
    | none =>
      rw [hp] at c1 c4
      have c1 : Box (∀ w, Calls Tryd.prog 21 #[.string s] w fun e w' => e = .returned (.tuple #[.int .u64 0, .bool false]) ∧ w = w') := c1
      have c4 : Box (∀ w, Ext W w → Calls Tryd.prog 24 #[.string s, .int .u64 0, .int .i64 6] w fun e w' => e = .returned (.bool true) ∧ Ext w w') := c4
      clear hp w0 ht ha hs
      go_enter Tryd.func6, Tryd.ntmps6
      go_wp2_with (first
        | (go_at_call 21; (with_reducible refine (c1.out _).mono ?_); rintro e w' ⟨rfl, rfl⟩) | (go_at_call 22; (with_reducible refine (c2.out _ hx).mono ?_); rintro e w1 ⟨rfl, hb⟩; have hx := Ext.trans' hx hb) | (go_at_call 23; (with_reducible refine (c3.out _).mono ?_); rintro e w' ⟨rfl, rfl⟩) | (go_at_call 24; (with_reducible refine (c4.out _ hx).mono ?_); rintro e w1 ⟨rfl, hb⟩; have hx := Ext.trans' hx hb)
        | (go_at_call 8; (with_reducible refine (ck.out _ hx).mono ?_); rintro e w1 ⟨rfl, hb⟩; have hx := Ext.trans' hx hb))
      go_ret
      exact ⟨rfl, hx⟩
    | some n =>
      rw [hp] at c1 c4
      have c1 : Box (∀ w, Calls Tryd.prog 21 #[.string s] w fun e w' => e = .returned (.tuple #[.int .u64 n, .bool true]) ∧ w = w') := c1
      have c4 : Box (∀ w, Ext W w → Calls Tryd.prog 24 #[.string s, .int .u64 n, .int .i64 0] w fun e w' => e = .returned (.bool true) ∧ Ext w w') := c4
      clear hp w0 ht ha hs
      go_enter Tryd.func6, Tryd.ntmps6
      go_wp2_with (first
        | (go_at_call 21; (with_reducible refine (c1.out _).mono ?_); rintro e w' ⟨rfl, rfl⟩) | (go_at_call 22; (with_reducible refine (c2.out _ hx).mono ?_); rintro e w1 ⟨rfl, hb⟩; have hx := Ext.trans' hx hb) | (go_at_call 23; (with_reducible refine (c3.out _).mono ?_); rintro e w' ⟨rfl, rfl⟩) | (go_at_call 24; (with_reducible refine (c4.out _ hx).mono ?_); rintro e w1 ⟨rfl, hb⟩; have hx := Ext.trans' hx hb)
        | (go_at_call 8; (with_reducible refine (ck.out _ hx).mono ?_); rintro e w1 ⟨rfl, hb⟩; have hx := Ext.trans' hx hb))
      go_ret
      exact ⟨rfl, hx⟩
  · clear ht ha w0
    go_enter Tryd.func6, Tryd.ntmps6
    go_wp2_with (first | (go_at_call 8; (with_reducible refine (ck.out _ hx).mono ?_); rintro e w1 ⟨rfl, hb⟩; have hx := Ext.trans' hx hb))
    go_ret
    exact ⟨rfl, hx⟩
end Go.Proofs.YtkllfeoepbahlaaDoor
