import Derived.Test.YtbnmnkmjokcmfaaDoorS29
/- The law's text. -/
namespace Go.Proofs.YtbnmnkmjokcmfaaDoor
open Go.RowKit
set_option maxRecDepth 100000 in
set_option maxHeartbeats 4000000 in
theorem ltext_any (a b : Int) (ha : -1048576 ≤ a ∧ a ≤ 1048576) (hb : -1048576 ≤ b ∧ b ≤ 1048576) (w : World) :
    Calls Tryd.prog 12 #[.agg #[.int .i64 a, .int .i64 b]] w fun e w' => e = .returned (.string ⟨(textG a b).toArray⟩) ∧ Ext w w' := by
  have hx0 : Ext w (w.alloc (.cells #[.int .i64 (a), .int .i64 (b)] 23)) := Ext.alloc (Below.refl _ _) _
  have hB0 := newblk w (.cells #[.int .i64 (a), .int .i64 (b)] 23)
  have sA := digs_size a.natAbs (by omega)
  have sB := digs_size b.natAbs (by omega)
  have cB1 : b < 0 → Box (∀ w, Calls Tryd.prog 41 #[.int .i64 (-b)] w fun e w' => e = .returned (.string (digs b.natAbs)) ∧ Ext w w') := fun h => ⟨fun w => by rw [show -b = (b.natAbs : Int) by omega]; exact ldec_any b.natAbs w (by omega)⟩
  have cB2 : ¬ b < 0 → Box (∀ w, Calls Tryd.prog 41 #[.int .i64 b] w fun e w' => e = .returned (.string (digs b.natAbs)) ∧ Ext w w') := fun h => ⟨fun w => by
    have := ldec_any b.natAbs w (by omega)
    rw [show (b.natAbs : Int) = b by omega] at this
    exact this⟩
  have qb : IntKind.i64.wrap (-b) = -b := by rw [IntKind.wrap_i64]; omega
  have hyn : b < 0 → signL b = [45] := fun h => by unfold signL; rw [if_pos h]
  have hyp : ¬ b < 0 → signL b = [43] := fun h => by unfold signL; rw [if_neg h]
  by_cases h1 : a < 0
  · have d1 : decide (a < 0) = true := decide_eq_true h1
    have qa : IntKind.i64.wrap (-a) = -a := by rw [IntKind.wrap_i64]; omega
    have cA : Box (∀ w, Calls Tryd.prog 41 #[.int .i64 (-a)] w fun e w' => e = .returned (.string (digs a.natAbs)) ∧ Ext w w') := ⟨fun w => by rw [show -a = (a.natAbs : Int) by omega]; exact ldec_any a.natAbs w (by omega)⟩
    have hX : Box (∀ y : ByteArray, y.data.toList = signL b → ((((⟨#[45]⟩ : ByteArray) ++ digs a.natAbs) ++ y) ++ digs b.natAbs) ++ ⟨#[105]⟩ = ⟨(textG a b).toArray⟩) := ⟨fun y hy => text_bytes a b _ y (by
      simp only [ByteArray.data_append, Array.toList_append]
      rw [digs_list]
      unfold Lib.itoa
      rw [if_pos h1]
      rfl) hy⟩
    have hBn : Box ((w.alloc (.cells #[.int .i64 (-a), .int .i64 (b)] 23)).drew.heap[w.heap.size]? = some (.cells #[.int .i64 (-a), .int .i64 (b)] 23)) := ⟨Ext.blk (Ext.drew1 (Below.refl _ _)) (newblk w _)⟩
    have hxn : Box (Ext w (w.alloc (.cells #[.int .i64 (-a), .int .i64 (b)] 23)).drew) := ⟨Ext.drew1 (Ext.alloc (Below.refl _ _) _)⟩
    by_cases h2 : b < 0
    · have d2 : decide (b < 0) = true := decide_eq_true h2
      have cB := cB1 h2
      have hf := Box.mk (hX.out ⟨#[45]⟩ (hyn h2).symm)
      clear cB1 cB2 hyn hyp hX h1 h2 hx0 hB0 ha hb
      generalize digs a.natAbs = x at *
      generalize digs b.natAbs = y at *
      go_enter Tryd.func12, Tryd.ntmps12
      go_wp2
      go_region
      all_goals
        obtain ⟨⟨m0, m1⟩, -⟩ := gz hBn.out
        have hx := hxn.out
        generalize (w.alloc (.cells #[.int .i64 (-a), .int .i64 b] 23)).drew = wk at *
        go_wp2_with (first
          | (go_at_call 41; (with_reducible refine (cA.out _).mono ?_); rintro e w1 ⟨rfl, hb⟩; have hx := Ext.trans' hx hb; have m0 := Ext.cell hb m0; have m1 := Ext.cell hb m1)
          | (go_at_call 41; (with_reducible refine (cB.out _).mono ?_); rintro e w1 ⟨rfl, hb⟩; have hx := Ext.trans' hx hb; have m0 := Ext.cell hb m0; have m1 := Ext.cell hb m1))
        go_ret
        exact ⟨by rw [← hf.out]; rfl, hx⟩
    · have d2 : decide (b < 0) = false := decide_eq_false h2
      have cB := cB2 h2
      have hf := Box.mk (hX.out ⟨#[43]⟩ (hyp h2).symm)
      clear cB1 cB2 hyn hyp hX h1 h2 hx0 hB0 ha hb
      generalize digs a.natAbs = x at *
      generalize digs b.natAbs = y at *
      go_enter Tryd.func12, Tryd.ntmps12
      go_wp2
      go_region
      all_goals
        obtain ⟨⟨m0, m1⟩, -⟩ := gz hBn.out
        have hx := hxn.out
        generalize (w.alloc (.cells #[.int .i64 (-a), .int .i64 b] 23)).drew = wk at *
        go_wp2_with (first
          | (go_at_call 41; (with_reducible refine (cA.out _).mono ?_); rintro e w1 ⟨rfl, hb⟩; have hx := Ext.trans' hx hb; have m0 := Ext.cell hb m0; have m1 := Ext.cell hb m1)
          | (go_at_call 41; (with_reducible refine (cB.out _).mono ?_); rintro e w1 ⟨rfl, hb⟩; have hx := Ext.trans' hx hb; have m0 := Ext.cell hb m0; have m1 := Ext.cell hb m1))
        go_ret
        exact ⟨by rw [← hf.out]; rfl, hx⟩
  · have d1 : decide (a < 0) = false := decide_eq_false h1
    have cA : Box (∀ w, Calls Tryd.prog 41 #[.int .i64 a] w fun e w' => e = .returned (.string (digs a.natAbs)) ∧ Ext w w') := ⟨fun w => by
      have := ldec_any a.natAbs w (by omega)
      rw [show (a.natAbs : Int) = a by omega] at this
      exact this⟩
    have hX : Box (∀ y : ByteArray, y.data.toList = signL b → ((((⟨#[]⟩ : ByteArray) ++ digs a.natAbs) ++ y) ++ digs b.natAbs) ++ ⟨#[105]⟩ = ⟨(textG a b).toArray⟩) := ⟨fun y hy => text_bytes a b _ y (by
      simp only [ByteArray.data_append, Array.toList_append]
      rw [digs_list]
      unfold Lib.itoa
      rw [if_neg h1, show a.toNat = a.natAbs by omega]
      rfl) hy⟩
    obtain ⟨⟨m0, m1⟩, -⟩ := gz hB0
    have hB := Box.mk hB0
    by_cases h2 : b < 0
    · have d2 : decide (b < 0) = true := decide_eq_true h2
      have cB := cB1 h2
      have hf := Box.mk (hX.out ⟨#[45]⟩ (hyn h2).symm)
      have hx := hx0
      clear cB1 cB2 hyn hyp hX h1 h2 hx0 hB0 ha hb
      generalize digs a.natAbs = x at *
      generalize digs b.natAbs = y at *
      go_enter Tryd.func12, Tryd.ntmps12
      go_wp2_with (first
        | (go_at_call 41; (with_reducible refine (cA.out _).mono ?_); rintro e w1 ⟨rfl, hb⟩; have hx := Ext.trans' hx hb; have m0 := Ext.cell hb m0; have m1 := Ext.cell hb m1)
        | (go_at_call 41; (with_reducible refine (cB.out _).mono ?_); rintro e w1 ⟨rfl, hb⟩; have hx := Ext.trans' hx hb; have m0 := Ext.cell hb m0; have m1 := Ext.cell hb m1))
      go_ret
      exact ⟨by rw [← hf.out]; rfl, hx⟩
    · have d2 : decide (b < 0) = false := decide_eq_false h2
      have cB := cB2 h2
      have hf := Box.mk (hX.out ⟨#[43]⟩ (hyp h2).symm)
      have hx := hx0
      clear cB1 cB2 hyn hyp hX h1 h2 hx0 hB0 ha hb
      generalize digs a.natAbs = x at *
      generalize digs b.natAbs = y at *
      go_enter Tryd.func12, Tryd.ntmps12
      go_wp2_with (first
        | (go_at_call 41; (with_reducible refine (cA.out _).mono ?_); rintro e w1 ⟨rfl, hb⟩; have hx := Ext.trans' hx hb; have m0 := Ext.cell hb m0; have m1 := Ext.cell hb m1)
        | (go_at_call 41; (with_reducible refine (cB.out _).mono ?_); rintro e w1 ⟨rfl, hb⟩; have hx := Ext.trans' hx hb; have m0 := Ext.cell hb m0; have m1 := Ext.cell hb m1))
      go_ret
      exact ⟨by rw [← hf.out]; rfl, hx⟩
end Go.Proofs.YtbnmnkmjokcmfaaDoor
