import Derived.Test.YtjeekfeimogehaaDoorC7
/- The laws' walks: ControlLooks, ControlSets, ControlErases, ControlTexts. -/
namespace Go.Proofs.YtjeekfeimogehaaDoor
open Go.RowKit

set_option maxHeartbeats 2000000 in
theorem lawControlLooks_walk (a0 a1 : Int) (W : World) (w0 : (Lit.int .u64 a0).wf = true) (w1 : (Lit.int .u8 a1).wf = true) (ht : Tabs W) :
    Calls Tryd.prog 3 #[.int .u64 a0, .int .u8 a1] W fun e W' => e = .returned (.bool true) ∧ Below W.heap.size W W' := by
  obtain ⟨h0, h1⟩ := wf_u64 w0
  obtain ⟨h2, h3⟩ := wf_u8 w1
  have c1 : Box _ := ⟨fun w => valid_any a0 w h0 h1⟩
  have c2 : Box _ := ⟨fun w => refValid_any a0 w h0 h1⟩
  have c3 : Box _ := ⟨fun w => cmatch_any a0 a1 w h0 h1 h2 h3⟩
  have c4 : Box _ := ⟨fun w => refCmatch_any a0 a1 w h0 h1 h2 h3⟩
  have c5 : Box _ := ⟨fun w => empties_any a0 w h0 h1⟩
  have c6 : Box _ := ⟨fun w => refEmpties_any a0 w h0 h1⟩
  have c7 : Box _ := ⟨fun w => free_any a0 w h0 h1⟩
  have c8 : Box _ := ⟨fun w => refFree_any a0 w h0 h1⟩
  have c9 : Box _ := ⟨fun w => full_any a0 w h0 h1⟩
  have c10 : Box _ := ⟨fun w => refFull_any a0 w h0 h1⟩
  have c11 : Box _ := ⟨blank_any⟩
  have c12 : Box _ := ⟨fun w => refRepeat_any 128 w (by omega) (by omega)⟩
  have ck : Box (∀ w, Ext W w → Calls Tryd.prog 20 #[] w fun e w' => e = .returned (.bool true) ∧ Ext w w') := ⟨fun w h => known_any w (ht.ext h)⟩
  generalize WM.validN a0.toNat = x1 at *
  generalize cmatch a0.toNat a1.toNat = x2 at *
  generalize WM.matchN a0.toNat 128 = x3 at *
  generalize WM.freeN a0.toNat = x4 at *
  generalize WM.fullN a0.toNat = x5 at *
  generalize repI 128 = x6 at *
  have hx : Ext W W := Below.refl _ _
  clear h0 h1 h2 h3 w0 w1 ht
  go_enter Tryd.func3, Tryd.ntmps3
  go_wp2_with (first
    | (go_at_call 8; (with_reducible refine (c1.out _).mono ?_); rintro e w' ⟨rfl, rfl⟩)
    | (go_at_call 9; (with_reducible refine (c2.out _).mono ?_); rintro e w1 ⟨rfl, hb⟩; have hx := Ext.trans' hx hb)
    | (go_at_call 10; (with_reducible refine (c3.out _).mono ?_); rintro e w' ⟨rfl, rfl⟩)
    | (go_at_call 11; (with_reducible refine (c4.out _).mono ?_); rintro e w1 ⟨rfl, hb⟩; have hx := Ext.trans' hx hb)
    | (go_at_call 12; (with_reducible refine (c5.out _).mono ?_); rintro e w' ⟨rfl, rfl⟩)
    | (go_at_call 13; (with_reducible refine (c6.out _).mono ?_); rintro e w1 ⟨rfl, hb⟩; have hx := Ext.trans' hx hb)
    | (go_at_call 14; (with_reducible refine (c7.out _).mono ?_); rintro e w' ⟨rfl, rfl⟩)
    | (go_at_call 15; (with_reducible refine (c8.out _).mono ?_); rintro e w1 ⟨rfl, hb⟩; have hx := Ext.trans' hx hb)
    | (go_at_call 16; (with_reducible refine (c9.out _).mono ?_); rintro e w' ⟨rfl, rfl⟩)
    | (go_at_call 17; (with_reducible refine (c10.out _).mono ?_); rintro e w1 ⟨rfl, hb⟩; have hx := Ext.trans' hx hb)
    | (go_at_call 18; (with_reducible refine (c11.out _).mono ?_); rintro e w' ⟨rfl, rfl⟩)
    | (go_at_call 19; (with_reducible refine (c12.out _).mono ?_); rintro e w1 ⟨rfl, hb⟩; have hx := Ext.trans' hx hb)
    | (go_at_call 20; (with_reducible refine (ck.out _ hx).mono ?_); rintro e w1 ⟨rfl, hb⟩; have hx := Ext.trans' hx hb))
  go_ret
  exact ⟨rfl, hx⟩

set_option maxHeartbeats 2000000 in
theorem lawControlSets_walk (a0 a1 a2 : Int) (W : World) (w0 : (Lit.int .u64 a0).wf = true) (_ : (Lit.int .i64 a1).wf = true) (w2 : (Lit.int .u8 a2).wf = true) (ht : Tabs W) :
    Calls Tryd.prog 4 #[.int .u64 a0, .int .i64 a1, .int .u8 a2] W fun e W' => e = .returned (.bool true) ∧ Below W.heap.size W W' := by
  obtain ⟨h0, h1⟩ := wf_u64 w0
  obtain ⟨h2, h3⟩ := wf_u8 w2
  have c1 : Box _ := ⟨fun w => cset_ext a0 a1 a2 w h0 h1 h2 h3⟩
  have c2 : Box _ := ⟨fun w => refCset_any a0 a1 a2 w h0 h1 h2 h3⟩
  have ck : Box (∀ w, Ext W w → Calls Tryd.prog 20 #[] w fun e w' => e = .returned (.bool true) ∧ Ext w w') := ⟨fun w h => known_any w (ht.ext h)⟩
  generalize setV a0.toNat a1 a2.toNat = x1 at *
  generalize setE a0.toNat a1 a2.toNat = x2 at *
  have hx : Ext W W := Below.refl _ _
  clear h0 h1 h2 h3 w0 w2 ht
  go_enter Tryd.func4, Tryd.ntmps4
  go_wp2_with (first
    | (go_at_call 21; (with_reducible refine (c1.out _).mono ?_); rintro e w1 ⟨rfl, hb⟩; have hx := Ext.trans' hx hb)
    | (go_at_call 22; (with_reducible refine (c2.out _).mono ?_); rintro e w1 ⟨rfl, hb⟩; have hx := Ext.trans' hx hb)
    | (go_at_call 20; (with_reducible refine (ck.out _ hx).mono ?_); rintro e w1 ⟨rfl, hb⟩; have hx := Ext.trans' hx hb))
  go_ret
  exact ⟨rfl, hx⟩

set_option maxHeartbeats 2000000 in
theorem lawControlErases_walk (a0 a1 : Int) (W : World) (w0 : (Lit.int .u64 a0).wf = true) (_ : (Lit.int .i64 a1).wf = true) (ht : Tabs W) :
    Calls Tryd.prog 5 #[.int .u64 a0, .int .i64 a1] W fun e W' => e = .returned (.bool true) ∧ Below W.heap.size W W' := by
  obtain ⟨h0, h1⟩ := wf_u64 w0
  have c1 : Box _ := ⟨fun w => erase_ext a0 a1 w h0 h1⟩
  have c2 : Box _ := ⟨fun w => refErase_any a0 a1 w h0 h1⟩
  have ck : Box (∀ w, Ext W w → Calls Tryd.prog 20 #[] w fun e w' => e = .returned (.bool true) ∧ Ext w w') := ⟨fun w h => known_any w (ht.ext h)⟩
  generalize eraV a0.toNat a1 = x1 at *
  generalize eraE a0.toNat a1 = x2 at *
  have hx : Ext W W := Below.refl _ _
  clear h0 h1 w0 ht
  go_enter Tryd.func5, Tryd.ntmps5
  go_wp2_with (first
    | (go_at_call 23; (with_reducible refine (c1.out _).mono ?_); rintro e w1 ⟨rfl, hb⟩; have hx := Ext.trans' hx hb)
    | (go_at_call 24; (with_reducible refine (c2.out _).mono ?_); rintro e w1 ⟨rfl, hb⟩; have hx := Ext.trans' hx hb)
    | (go_at_call 20; (with_reducible refine (ck.out _ hx).mono ?_); rintro e w1 ⟨rfl, hb⟩; have hx := Ext.trans' hx hb))
  go_ret
  exact ⟨rfl, hx⟩

set_option maxHeartbeats 2000000 in
theorem lawControlTexts_walk (a0 : Int) (W : World) (w0 : (Lit.int .u64 a0).wf = true) (ht : Tabs W) :
    Calls Tryd.prog 6 #[.int .u64 a0] W fun e W' => e = .returned (.bool true) ∧ Below W.heap.size W W' := by
  obtain ⟨h0, h1⟩ := wf_u64 w0
  have c1 : Box _ := ⟨fun w => refValid_any a0 w h0 h1⟩
  have c2 : Box _ := ⟨fun w => refText_any a0 w h0 h1⟩
  have ck : Box (∀ w, Ext W w → Calls Tryd.prog 20 #[] w fun e w' => e = .returned (.bool true) ∧ Ext w w') := ⟨fun w h => known_any w (ht.ext h)⟩
  have hx : Ext W W := Below.refl _ _
  cases hv : WM.validN a0.toNat
  · have c3 : Box _ := ⟨fun w => text_bad a0 w h0 h1 hv⟩
    rw [hv] at c1
    clear h0 h1 w0 ht c2 hv
    go_enter Tryd.func6, Tryd.ntmps6
    go_wp2_with (first
      | (go_at_call 25; (with_reducible refine (c3.out _).mono ?_); rintro e w' ⟨rfl, rfl⟩)
      | (go_at_call 9; (with_reducible refine (c1.out _).mono ?_); rintro e w1 ⟨rfl, hb⟩; have hx := Ext.trans' hx hb)
      | (go_at_call 20; (with_reducible refine (ck.out _ hx).mono ?_); rintro e w1 ⟨rfl, hb⟩; have hx := Ext.trans' hx hb))
    go_ret
    exact ⟨rfl, hx⟩
  · have c3 : Box _ := ⟨text_any a0 W h0 h1 hv ht⟩
    rw [hv] at c1
    generalize outB (WM.lane a0.toNat) 8 = x1 at *
    clear h0 h1 w0 ht hv
    go_enter Tryd.func6, Tryd.ntmps6
    go_wp2_with (first
      | (go_at_call 25; (with_reducible refine c3.out.mono ?_); rintro e w1 ⟨rfl, hb⟩; have hx := Ext.trans' hx hb)
      | (go_at_call 26; (with_reducible refine (c2.out _).mono ?_); rintro e w1 ⟨rfl, hb⟩; have hx := Ext.trans' hx hb)
      | (go_at_call 9; (with_reducible refine (c1.out _).mono ?_); rintro e w1 ⟨rfl, hb⟩; have hx := Ext.trans' hx hb)
      | (go_at_call 20; (with_reducible refine (ck.out _ hx).mono ?_); rintro e w1 ⟨rfl, hb⟩; have hx := Ext.trans' hx hb))
    go_ret
    exact ⟨rfl, hx⟩
end Go.Proofs.YtjeekfeimogehaaDoor
