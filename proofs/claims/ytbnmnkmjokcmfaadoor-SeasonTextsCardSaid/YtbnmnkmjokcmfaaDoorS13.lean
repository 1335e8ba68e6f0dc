import Derived.Test.YtbnmnkmjokcmfaaDoorS12
/- Nil and zero counters: each of their functions. -/
namespace Go.Proofs.YtbnmnkmjokcmfaaDoor
open Go.RowKit
def NoneC (p : Value) (w : World) : Prop := ∀ w', Ext w w' → Calls Tryd.prog 47 #[p] w' fun e w'' => e = .returned (.bool true) ∧ w' = w''
theorem NoneC.ext {p : Value} {w w' : World} (h : NoneC p w) (hb : Ext w w') : NoneC p w' := fun w2 h2 => h w2 (Ext.trans' hb h2)
theorem NoneC.nil (w : World) : NoneC (.pointer none) w := fun w' _ => cnone_nil w'
theorem NoneC.zero (w : World) (C : Nat) (h : w.cell? ⟨C, 0, none⟩ = some (.int .u64 0)) : NoneC (.pointer (some ⟨C, 0, none⟩)) w := fun w' hx => cnone_zero w' C (Ext.cell hx h)
set_option maxHeartbeats 2000000 in
theorem nUse (p : Value) (now : Nat) (n : Int) (w : World) (h : NoneC p w) : Calls Tryd.prog 24 #[p, .int .u64 now, .int .i64 n] w fun e w' => e = .returned (.int .i64 1) ∧ Ext w w' := by
  have hx : Ext w w := Below.refl _ _
  have c1 : Box (∀ w', Ext w w' → _) := ⟨fun w' hx => h w' hx⟩
  clear h
  go_enter Tryd.func24, Tryd.ntmps24
  go_wp2_with (first | (go_at_call 47; (with_reducible refine (c1.out _ hx).mono ?_); rintro e w' ⟨rfl, rfl⟩))
  go_ret
  exact ⟨rfl, hx⟩
set_option maxHeartbeats 2000000 in
theorem nBest (p : Value) (w : World) (h : NoneC p w) : Calls Tryd.prog 31 #[p] w fun e w' => e = .returned (.tuple #[.int .i64 0, .int .i64 1]) ∧ Ext w w' := by
  have hx : Ext w w := Below.refl _ _
  have c1 : Box (∀ w', Ext w w' → _) := ⟨fun w' hx => h w' hx⟩
  clear h
  go_enter Tryd.func31, Tryd.ntmps31
  go_wp2_with (first | (go_at_call 47; (with_reducible refine (c1.out _ hx).mono ?_); rintro e w' ⟨rfl, rfl⟩))
  go_ret2
  exact ⟨rfl, hx⟩
set_option maxHeartbeats 2000000 in
theorem nShare (p : Value) (now : Nat) (w : World) (h : NoneC p w) : Calls Tryd.prog 32 #[p, .int .u64 now] w fun e w' => e = .returned (.tuple #[.int .i64 0, .int .i64 0, .int .i64 1]) ∧ Ext w w' := by
  have hx : Ext w w := Below.refl _ _
  have c1 : Box (∀ w', Ext w w' → _) := ⟨fun w' hx => h w' hx⟩
  clear h
  go_enter Tryd.func32, Tryd.ntmps32
  go_wp2_with (first | (go_at_call 47; (with_reducible refine (c1.out _ hx).mono ?_); rintro e w' ⟨rfl, rfl⟩))
  go_ret3
  exact ⟨rfl, hx⟩
set_option maxHeartbeats 2000000 in
theorem nCopy (p : Value) (w : World) (h : NoneC p w) : Calls Tryd.prog 28 #[p] w fun e w' => e = .returned (.pointer none) ∧ Ext w w' := by
  have hx : Ext w w := Below.refl _ _
  have c1 : Box (∀ w', Ext w w' → _) := ⟨fun w' hx => h w' hx⟩
  clear h
  go_enter Tryd.func28, Tryd.ntmps28
  go_wp2_with (first | (go_at_call 47; (with_reducible refine (c1.out _ hx).mono ?_); rintro e w' ⟨rfl, rfl⟩))
  go_ret
  exact ⟨rfl, hx⟩
set_option maxHeartbeats 2000000 in
theorem nCounts (p : Value) (w : World) (h : NoneC p w) : Calls Tryd.prog 27 #[p] w fun e w' => e = .returned (.agg #[.int .i64 0, .int .i64 0, .int .i64 0, .int .i64 0]) ∧ Ext w w' := by
  have hx : Ext w (w.alloc (.cells #[.int .i64 0, .int .i64 0, .int .i64 0, .int .i64 0] 50)) := Ext.alloc (Below.refl _ _) _
  have c1 : Box (∀ w', Ext w w' → _) := ⟨fun w' hx => h w' hx⟩
  clear h
  go_enter Tryd.func27, Tryd.ntmps27
  go_wp2_with (first | (go_at_call 47; (with_reducible refine (c1.out _ hx).mono ?_); rintro e w' ⟨rfl, rfl⟩))
  refine bodyPost_ret (v := .agg #[.int .i64 0, .int .i64 0, .int .i64 0, .int .i64 0]) ?_ rfl ⟨rfl, ?_⟩
  · simp [results, Tryd.results27, go_sem]
  · go_grown
set_option maxHeartbeats 2000000 in
theorem nWave (p : Value) (w : World) (h : NoneC p w) : Calls Tryd.prog 30 #[p] w fun e w' => e = .returned (.tuple #[.agg #[.int .i64 0, .int .i64 0, .int .i64 0, .int .i64 0, .int .i64 0, .int .i64 0, .int .i64 0, .int .i64 0], .int .i64 1]) ∧ Ext w w' := by
  obtain ⟨⟨o0, o1, o2, o3, o4, o5, o6, o7⟩, z0, z1, z2, z3, z4, z5, z6, z7⟩ := cx8 (newblk w (.cells #[.int .i64 0, .int .i64 0, .int .i64 0, .int .i64 0, .int .i64 0, .int .i64 0, .int .i64 0, .int .i64 0] 29))
  have hx : Ext w (w.alloc (.cells #[.int .i64 0, .int .i64 0, .int .i64 0, .int .i64 0, .int .i64 0, .int .i64 0, .int .i64 0, .int .i64 0] 29)) := Ext.alloc (Below.refl _ _) _
  have c1 : Box (∀ w', Ext w w' → _) := ⟨fun w' hx => h w' hx⟩
  clear h
  go_enter Tryd.func30, Tryd.ntmps30
  go_wp2_with (first | (go_at_call 47; (with_reducible refine (c1.out _ hx).mono ?_); rintro e w' ⟨rfl, rfl⟩))
  refine bodyPost_ret (v := .tuple #[.agg #[.int .i64 0, .int .i64 0, .int .i64 0, .int .i64 0, .int .i64 0, .int .i64 0, .int .i64 0, .int .i64 0], .int .i64 1]) ?_ rfl ⟨rfl, ?_⟩
  · simp [results, Tryd.results30, go_sem, o0, o1, o2, o3, o4, o5, o6, o7]
  · go_grown
set_option maxHeartbeats 2000000 in
theorem nMerge (p : Value) (q : Value) (w : World) (h : NoneC p w) : Calls Tryd.prog 26 #[p, q] w fun e w' => e = .returned (.int .i64 1) ∧ Ext w w' := by
  have hx : Ext w w := Below.refl _ _
  have c1 : Box (∀ w', Ext w w' → _) := ⟨fun w' hx => h w' hx⟩
  clear h
  go_enter Tryd.func26, Tryd.ntmps26
  go_wp2_with (first | (go_at_call 47; (with_reducible refine (c1.out _ hx).mono ?_); rintro e w' ⟨rfl, rfl⟩))
  go_ret
  exact ⟨rfl, hx⟩
set_option maxHeartbeats 2000000 in
theorem nMerge2 (p : Value) (C W : Nat) (m : Nat → Int) (w : World) (hc : Ctr w C W m) (h : NoneC p w) : Calls Tryd.prog 26 #[.pointer (some ⟨C, 0, none⟩), p] w fun e w' => e = .returned (.int .i64 1) ∧ Ext w w' := by
  have hx : Ext w w := Below.refl _ _
  have c1 : Box (∀ w', Ext w w' → _) := ⟨fun w' hx => h w' hx⟩
  have c2 := Box.mk (cnone_ok w C W m hc)
  clear h hc
  go_enter Tryd.func26, Tryd.ntmps26
  go_wp2_with (first | (go_at_call 47; (with_reducible refine (c2.out).mono ?_); rintro e w' ⟨rfl, rfl⟩) | (go_at_call 47; (with_reducible refine (c1.out _ hx).mono ?_); rintro e w' ⟨rfl, rfl⟩))
  go_ret
  exact ⟨rfl, hx⟩
set_option maxRecDepth 100000 in
set_option maxHeartbeats 4000000 in
theorem nSeason (p : Value) (w : World) (h : NoneC p w) : Calls Tryd.prog 33 #[p] w fun e w' => e = .returned (.int .i64 0) ∧ Ext w w' := by
  have c0 := Box.mk (nWave p w h)
  have c1 : Box (∀ w, Calls Tryd.prog 50 #[.agg #[.int .i64 0, .int .i64 0]] w fun e w' => e = .returned (.int .i64 0) ∧ Ext w w') := ⟨fun w => square_any 0 0 w (by unfold Lim; omega) (by unfold Lim; omega)⟩
  have hx : Ext w w := Below.refl _ _
  clear h
  go_enter Tryd.func33, Tryd.ntmps33
  go_wp2_with (first
    | (go_at_call 30; (with_reducible refine c0.out.mono ?_); rintro e w1 ⟨rfl, hb⟩; have hxe := Ext.alloc hb (.cells #[.int .i64 0, .int .i64 0, .int .i64 0, .int .i64 0, .int .i64 0, .int .i64 0, .int .i64 0, .int .i64 0] 29); have hD := newblk w1 (.cells #[.int .i64 0, .int .i64 0, .int .i64 0, .int .i64 0, .int .i64 0, .int .i64 0, .int .i64 0, .int .i64 0] 29); obtain ⟨⟨o0, o1, o2, o3, o4, o5, o6, o7⟩, _⟩ := cx8 hD))
  have hxe := Ext.drew1 hxe
  go_region_held3 (fun w' => w'.cell? ⟨w1.heap.size, 2, none⟩ = some (.int .i64 0) ∧ w'.cell? ⟨w1.heap.size, 3, none⟩ = some (.int .i64 0) ∧ w'.cell? ⟨w1.heap.size, 4, none⟩ = some (.int .i64 0) ∧ w'.cell? ⟨w1.heap.size, 5, none⟩ = some (.int .i64 0))
    (exact ⟨o2, o3, o4, o5⟩)
    (first
      | (go_at_call 50; (with_reducible refine (c1.out _).mono ?_); rintro e w2 ⟨rfl, hb2⟩; have hxe := Ext.trans' hxe hb2; have o2 := Ext.cell hb2 o2; have o3 := Ext.cell hb2 o3; have o4 := Ext.cell hb2 o4; have o5 := Ext.cell hb2 o5))
  go_wp2
  go_ret
  exact ⟨rfl, hxe⟩
end Go.Proofs.YtbnmnkmjokcmfaaDoor
